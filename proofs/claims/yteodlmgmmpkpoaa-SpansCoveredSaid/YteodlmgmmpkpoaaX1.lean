-- Printed by a program of this session out of the translation (hybrid print) and out of hand proofs. Not trusted: Lean checks it.
import Derived.Below
import Derived.Deep.Draws
import Derived.Deep.AppendLies
import Derived.Maps.AppendAt
import Derived.OwnWalk
import Derived.Laws.BytesArg
import Derived.Laws.MakeOwn
import Derived.Laws.OwnMore
import Derived.Deep.OwnRows
import Derived.Tactics
import Derived.Lib.ConvBytes
import Derived.Laws.Slices
import Derived.WalkKit
import Derived.KernelRfl
import Derived.RowKit3
import Derived.Deep.LoopGhost
import Derived.Deep.QuietTactic
import Derived.BigQuiet
import Derived.WideLaws
import Derived.Deep.DeepCutAuto
import Derived.Deep.CutBlock
import Derived.Deep.RegionHeld3
import Derived.Laws.Rows
import Derived.Lib.AppendStr
import Derived.ArgAppend
import Derived.Laws.IdiomCopy
import Derived.RowKit
import Derived.OrdersHeld
import Derived.Laws.BitsLemmas
import Derived.Test.YteodlmgmmpkpoaaProg
import Derived.RangeFuncBox
import Derived.Test.YteodlmgmmpkpoaaX0
section
namespace Go.Proofs.Yteodlmgmmpkpoaa.PS
open Go.RowKit Go.Proofs.YteodlmgmmpkpoaaW.PrintWords Go.Proofs.YteodlmgmmpkpoaaW.PrintLast Go.Proofs.YteodlmgmmpkpoaaW.PrintMore
attribute [local go_sem] max2_int min2_int max_two min_two max_three min_three max_four min_four   -- for this text's walks alone
set_option linter.unusedVariables false
set_option linter.unusedSimpArgs false
theorem info27 : (Try.prog.info? 27).map (fun i => (i.zero, i.size, i.bytes)) = some (some (.agg #[(.int .i64 0), (.int .i64 0)]), 2, 16) := by kernel_rfl
theorem info38 : (Try.prog.info? 38).map (fun i => (i.zero, i.size, i.bytes)) = some (some (.slice none 0 0), 1, 24) := by kernel_rfl
theorem k27_openM {w : World} {base : Nat} {ok : Nat → Prop} {x : S27} {cs : List Value} (h : k27.M w base ok x cs) : cs = [.int .i64 x.f0, .int .i64 x.f1] := by
  obtain ⟨_, _, rfl, rfl, rfl⟩ := h
  exact rfl
def rd_L2 (xs : List (List S27)) (i : Int) : (List S27) := xs.getD i.toNat ([] : List S27)
theorem at_L2 {w : World} {A : Option Addr} {n : Nat} {xs : List (List S27)} (h : Kd.C (Kd.slice 27 k27) w A n xs) (i : Int) (h0 : 0 ≤ i) (h1 : i < n) : ∃ ad A0 c0, A = some ad ∧ w.cell? (ad.add i.toNat) = some (.slice A0 (rd_L2 xs i).length c0) ∧ (rd_L2 xs i).length ≤ c0 ∧ k27.C w A0 (rd_L2 xs i).length (rd_L2 xs i) := by
  obtain ⟨ad, c, e, _, hK, hc0⟩ := Kd.C_get h ([] : List S27) i h0 h1
  have hc : ∀ j u, c[j]? = some u → w.cell? (ad.add (i.toNat * 1 + j)) = some u := hc0
  obtain ⟨A0, c0, rfl, l0, g0⟩ := hK
  exact ⟨ad, A0, c0, e, by have hq := hc 0 _ rfl; rwa [Nat.mul_one, Nat.add_zero] at hq, l0, g0⟩
end Go.Proofs.Yteodlmgmmpkpoaa.PS
end
section
namespace Go.Proofs.Yteodlmgmmpkpoaa.PS
set_option linter.unusedVariables false
def boxB (b : List S27) : Bool := (decide (1 ≤ b.length) && decide (b.length ≤ 3)) && b.all (fun s => okS s.f0 s.f1)
def cutT (pre : List S27) : List S27 → List S27 → List (List S27)
  | a :: av, b :: bv =>
    (if a.f0 ≤ min a.f1 (b.f0 - 1) then [pre ++ ⟨a.f0, min a.f1 (b.f0 - 1)⟩ :: av] else []) ++
    ((if max a.f0 (b.f1 + 1) ≤ a.f1 then [pre ++ ⟨max a.f0 (b.f1 + 1), a.f1⟩ :: av] else []) ++
    (if max a.f0 b.f0 ≤ min a.f1 b.f1 then cutT (pre ++ [⟨max a.f0 b.f0, min a.f1 b.f1⟩]) av bv else []))
  | _, _ => []
def restT (l : List (List S27)) (b : List S27) : List (List S27) := l.flatMap fun a => cutT [] a b
def spans_Minus.f (a b : List S27) : Option (List (List S27) × Int) :=
  some (if boxB a && boxB b then (if a.length = b.length then (cutT [] a b, 0) else ([], 1)) else ([], 10))
end Go.Proofs.Yteodlmgmmpkpoaa.PS
end
section
namespace Go.Proofs.Yteodlmgmmpkpoaa.PS
open Go.RowKit Go.Proofs.YteodlmgmmpkpoaaW.PrintWords Go.Proofs.YteodlmgmmpkpoaaW.PrintLast Go.Proofs.YteodlmgmmpkpoaaW.PrintMore
attribute [local go_sem] max2_int min2_int max_two min_two max_three min_three max_four min_four   -- for this text's walks alone
set_option linter.unusedVariables false
set_option linter.unusedSimpArgs false
def swashplateref01_From.f (a0 : Int) (a1 : Int) (a2 : Int) : Option (Bool) := if a0 ≥ a1 then (some (decide (a0 ≤ a2))) else (some false)
end Go.Proofs.Yteodlmgmmpkpoaa.PS
end
section
namespace Go.Proofs.Yteodlmgmmpkpoaa.PS
open Go.RowKit Go.Proofs.YteodlmgmmpkpoaaW.PrintWords Go.Proofs.YteodlmgmmpkpoaaW.PrintLast Go.Proofs.YteodlmgmmpkpoaaW.PrintMore
attribute [local go_sem] max2_int min2_int max_two min_two max_three min_three max_four min_four   -- for this text's walks alone
set_option linter.unusedVariables false
set_option linter.unusedSimpArgs false
def swashplateref01_Valid.f (a0_0 : Int) (a0_1 : Int) : Option (Bool) := (swashplateref01_From.f a0_0 (-1000000) 1000000).bind fun t330 => (if t330 = true then ((swashplateref01_From.f a0_1 a0_0 1000000).bind fun t331 => (some t331)) else (some false))
end Go.Proofs.Yteodlmgmmpkpoaa.PS
end
section
namespace Go.Proofs.Yteodlmgmmpkpoaa.PS
open Go.RowKit Go.Proofs.YteodlmgmmpkpoaaW.PrintWords Go.Proofs.YteodlmgmmpkpoaaW.PrintLast Go.Proofs.YteodlmgmmpkpoaaW.PrintMore
attribute [local go_sem] max2_int min2_int max_two min_two max_three min_three max_four min_four   -- for this text's walks alone
set_option linter.unusedVariables false
set_option linter.unusedSimpArgs false
def swashplateref01_Check.l0 : Nat → List (S27) → Int → Option (Int)
 | 0, _, _ => none
 | k + 1, x0, x3 => if x3 < (x0.length : Int) then (if 0 ≤ x3 then ((swashplateref01_Valid.f ((rd_T27 x0 x3).f0) ((rd_T27 x0 x3).f1)).bind fun t334 => (if t334 = true then (swashplateref01_Check.l0 k x0 (wrap64 (x3 + 1))) else (some 10))) else (none)) else (some 0)
def swashplateref01_Check.f (k : Nat) (l0 : List (S27)) : Option (Int) := (swashplateref01_From.f (l0.length : Int) 1 3).bind fun t332 => (if t332 = true then (swashplateref01_Check.l0 k l0 0) else (some 10))
end Go.Proofs.Yteodlmgmmpkpoaa.PS
end
section
namespace Go.Proofs.Yteodlmgmmpkpoaa.PS
open Go.RowKit Go.Proofs.YteodlmgmmpkpoaaW.PrintWords Go.Proofs.YteodlmgmmpkpoaaW.PrintLast Go.Proofs.YteodlmgmmpkpoaaW.PrintMore
attribute [local go_sem] max2_int min2_int max_two min_two max_three min_three max_four min_four   -- for this text's walks alone
set_option linter.unusedVariables false
set_option linter.unusedSimpArgs false
def swashplatelaw01_box.f (l0 : List (S27)) : Option ((List (S27))) := (some (([] : List (S27)) : List (S27))).bind fun y323 => (if y323.length + l0.length < 8796093022208 then (some (y323 ++ l0)) else (none))
end Go.Proofs.Yteodlmgmmpkpoaa.PS
end
section
namespace Go.Proofs.Yteodlmgmmpkpoaa.PS
open Go.RowKit Go.Proofs.YteodlmgmmpkpoaaW.PrintWords Go.Proofs.YteodlmgmmpkpoaaW.PrintLast Go.Proofs.YteodlmgmmpkpoaaW.PrintMore
attribute [local go_sem] max2_int min2_int max_two min_two max_three min_three max_four min_four   -- for this text's walks alone
set_option linter.unusedVariables false
set_option linter.unusedSimpArgs false
def spans_Check.f (l0 : List (S27)) : Option (Int) := (spans_within.f (l0.length : Int) 1 3).bind fun t158 => (if t158 = true then ((spans_spanned.f l0).bind fun t159 => (some t159)) else (some 10))
set_option maxHeartbeats 8000000 in
set_option maxRecDepth 100000 in
theorem spans_Check.calls (A0 : Option Addr) (c0 : Nat) (l0 : List (S27)) (r : Int) (w : World) (hr0 : Kd.C k27 w A0 l0.length l0) (hc0 : l0.length ≤ c0) (h : spans_Check.f l0 = some r) :
  Calls Try.prog 26 #[.slice A0 l0.length c0] w fun e w' => e = .returned (.int .i64 r) ∧ Below w.heap.size w w' := by
 have HR0 := Aside0.mk hr0
 have HC0 := Aside0.mk hc0
 clear hr0 hc0
 have HB := Aside0.mk (Below.refl w.heap.size w)
 have H : ((spans_within.f (l0.length : Int) 1 3).bind fun t158 => (if t158 = true then ((spans_spanned.f l0).bind fun t159 => (some t159)) else (some 10))) = some r := h
 clear h
 replace H := Option.bind_eq_some_iff.mp H
 obtain ⟨t158, A20, H⟩ := H
 replace H : (if t158 = true then ((spans_spanned.f l0).bind fun t159 => (some t159)) else (some 10)) = some r := H
 have A2 := Aside0.mk A20
 clear A20
 by_cases c3 : t158 = true
 ·
  subst c3
  have H1 : ((spans_spanned.f l0).bind fun t159 => (some t159)) = some r := by rw [if_pos rfl] at H; exact H
  clear H
  have H := H1
  clear H1
  replace H := Option.bind_eq_some_iff.mp H
  obtain ⟨t159, A40, H⟩ := H
  replace H : (some t159) = some r := H
  have A4 := Aside0.mk A40
  clear A40
  obtain rfl := Option.some.inj H
  go_enter Try.func26, Try.ntmps26
  go_wp2_with (first | ((with_reducible refine gate_callee (f := 93) rfl ?_); refine goesL_ (some 5) rfl rfl Try.func93 (by kernel_rfl) rfl #[.int .i64 (l0.length : Int), .int .i64 1, .int .i64 3] rfl (by (try simp only [List.map_toArray, List.map_cons, List.map_nil]); first | done | rfl | (simp only [List.length_drop, List.length_take]; rfl)) ?_; (with_reducible refine (spans_within.calls (l0.length : Int) 1 3 true _ A2.out).mono ?_); rintro e w' ⟨rfl, ⟨nd, rfl⟩⟩; refine ⟨_, rfl, ?_⟩) | ((with_reducible refine gate_callee (f := 94) rfl ?_); refine goesL_ (some 8) rfl rfl Try.func94 (by kernel_rfl) rfl #[.slice A0 l0.length c0] rfl (by (try simp only [List.map_toArray, List.map_cons, List.map_nil]); first | done | rfl | (simp only [List.length_drop, List.length_take]; rfl)) ?_; (with_reducible refine (spans_spanned.calls _ _ l0 t159 _ ?side1 ?side2 A4.out).mono ?_); (case side1 => exact cr_ HR0.out); (case side2 => exact HC0.out); rintro e w5 ⟨rfl, hb⟩; refine ⟨_, rfl, ?_⟩; have n0_ := Aside0.mk (below_step (bl_ HB.out) hb); clear HB; have HB := n0_; clear n0_; (try clear hb); (try clear hb2); (try clear hk); (try clear hi)))
  go_ret
  exact ⟨by first | rfl | (simp [errW_none, errW_some] <;> rfl) | (simp [*, errW_none, errW_some] <;> rfl), bl_ HB.out⟩
 ·
  replace c3 := Bool.eq_false_iff.mpr c3
  subst c3
  have H1 : (some 10) = some r := by rw [if_neg (show ¬ (false = true) by decide)] at H; exact H
  clear H
  have H := H1
  clear H1
  obtain rfl := Option.some.inj H
  go_enter Try.func26, Try.ntmps26
  go_wp2_with (first | ((with_reducible refine gate_callee (f := 93) rfl ?_); refine goesL_ (some 5) rfl rfl Try.func93 (by kernel_rfl) rfl #[.int .i64 (l0.length : Int), .int .i64 1, .int .i64 3] rfl (by (try simp only [List.map_toArray, List.map_cons, List.map_nil]); first | done | rfl | (simp only [List.length_drop, List.length_take]; rfl)) ?_; (with_reducible refine (spans_within.calls (l0.length : Int) 1 3 false _ A2.out).mono ?_); rintro e w' ⟨rfl, ⟨nd, rfl⟩⟩; refine ⟨_, rfl, ?_⟩))
  go_ret
  exact ⟨by first | rfl | (simp [errW_none, errW_some] <;> rfl) | (simp [*, errW_none, errW_some] <;> rfl), bl_ HB.out⟩
end Go.Proofs.Yteodlmgmmpkpoaa.PS
end
section
namespace Go.Proofs.Yteodlmgmmpkpoaa.PS
open Go.RowKit Go.Proofs.YteodlmgmmpkpoaaW.PrintWords Go.Proofs.YteodlmgmmpkpoaaW.PrintLast Go.Proofs.YteodlmgmmpkpoaaW.PrintMore
set_option linter.unusedVariables false
theorem from_total (a b c : Int) : swashplateref01_From.f a b c = some (decide (b ≤ a) && decide (a ≤ c)) := by
  unfold swashplateref01_From.f
  by_cases h : a ≥ b
  · rw [if_pos h]; simp [show b ≤ a from h]
  · rw [if_neg h]; simp [show ¬ b ≤ a from h]
theorem rvalid_total (a b : Int) : swashplateref01_Valid.f a b = some (okS a b) := by
  unfold swashplateref01_Valid.f okS
  rw [from_total, Option.bind_some]
  by_cases h : (decide (-1000000 ≤ a) && decide (a ≤ 1000000)) = true
  · rw [if_pos h, from_total, Option.bind_some]
    simp only [Bool.and_eq_true, decide_eq_true_eq] at h
    congr 1
    rw [Bool.eq_iff_iff]
    simp
    omega
  · rw [if_neg h]
    simp only [Bool.and_eq_true, decide_eq_true_eq] at h
    congr 1
    symm
    rw [Bool.eq_false_iff]
    intro h2
    simp at h2
    omega
theorem step64 (i : Nat) (h : i < 9223372036854775807) : wrap64 ((i : Int) + 1) = ((i + 1 : Nat) : Int) := by rw [wr64 (by omega) (by omega)]; rfl
theorem drop_stepG {α : Type} (d : α) (l : List α) (i : Nat) (hi : i < l.length) : l.drop i = l.getD i d :: l.drop (i + 1) := by
  rw [List.drop_eq_getElem_cons hi, List.getD_eq_getElem?_getD, List.getElem?_eq_getElem hi]
  rfl
theorem box_total (l : List S27) (h : l.length ≤ 6) : swashplatelaw01_box.f l = some l := by
  unfold swashplatelaw01_box.f
  rw [Option.bind_some, if_pos (by simp only [List.length_nil]; omega), List.nil_append]
theorem rdT27_nat (l : List S27) (i : Nat) : rd_T27 l (i : Int) = l.getD i z27 := by unfold rd_T27; rw [Int.toNat_natCast]
theorem rcheck_loop (l : List S27) (hl : l.length ≤ 9223372036854775806) : ∀ (k i : Nat), i ≤ l.length → l.length - i < k →
    swashplateref01_Check.l0 k l i = some (if (l.drop i).all (fun s => okS s.f0 s.f1) then 0 else 10)
  | 0, i, _, h => absurd h (Nat.not_lt_zero _)
  | k + 1, i, hi, hk => by
    simp only [swashplateref01_Check.l0]
    by_cases hlt : i < l.length
    · rw [if_pos (by omega), if_pos (by omega), rdT27_nat, rvalid_total, Option.bind_some, drop_stepG z27 l i hlt, List.all_cons]
      cases okS (l.getD i z27).f0 (l.getD i z27).f1 with
      | false => rw [if_neg (by simp)]; rfl
      | true => rw [if_pos rfl, step64 i (by omega), rcheck_loop l hl k (i + 1) (by omega) (by omega), Bool.true_and]
    · rw [if_neg (by omega), List.drop_of_length_le (by omega)]
      rfl
theorem boxB_len (l : List S27) : (decide ((1 : Int) ≤ (l.length : Int)) && decide ((l.length : Int) ≤ 3)) = (decide (1 ≤ l.length) && decide (l.length ≤ 3)) := by
  rw [Bool.eq_iff_iff]; simp; omega
theorem rcheck_total (l : List S27) (k : Nat) (hk : 5 < k) : swashplateref01_Check.f k l = some (if boxB l then 0 else 10) := by
  unfold swashplateref01_Check.f boxB
  rw [from_total, Option.bind_some, boxB_len]
  by_cases h : (decide (1 ≤ l.length) && decide (l.length ≤ 3)) = true
  · rw [if_pos h, h, Bool.true_and]
    simp only [Bool.and_eq_true, decide_eq_true_eq] at h
    have := rcheck_loop l (by omega) k 0 (Nat.zero_le _) (by omega)
    rw [List.drop_zero] at this
    exact this
  · rw [if_neg h]
    rw [Bool.not_eq_true] at h
    rw [h]
    rfl
theorem check_total (l : List S27) : spans_Check.f l = some (if boxB l then 0 else 10) := by
  unfold spans_Check.f boxB
  rw [within_total, Option.bind_some, boxB_len]
  cases (decide (1 ≤ l.length) && decide (l.length ≤ 3)) with
  | true => rw [if_pos rfl]; unfold spans_spanned.f; rw [Option.bind_some, Bool.true_and]
  | false => rw [if_neg (by simp)]; rfl
end Go.Proofs.Yteodlmgmmpkpoaa.PS
end
section
namespace Go.Proofs.Yteodlmgmmpkpoaa.PS
open Go.RowKit Go.Deep Go.ChangeShapes Go.WideShapes Go.ChangeAt Go.Proofs.YteodlmgmmpkpoaaW.PrintWords
set_option linter.unusedVariables false
section
variable {H : Type} {enc : TypeId × Value → H} {w : World} {base : Nat} {held : Bool} {v : Value} {d : DataW H} {ps : List MemPlace} {r : Reach} {b0 : Nat}
set_option maxRecDepth 100000 in
theorem arg22 (hv : Value.okWide Try.prog w r b0 22 v) (h : DataW.Trod enc Try.prog w base (fun _ => true) held 22 v d ps) :
    ∃ A c, ∃ l : List Int, v = .slice A l.length c ∧ l.length ≤ c ∧ (Kd.int .i64).C w A l.length l ∧ (∀ a ∈ l, wfI a) ∧ l.length ≤ maxLen := by
  obtain ⟨a0, len, cap, rfl⟩ := okWide_slice Try.underlying22 hv
  obtain ⟨fuel, hf⟩ := h
  obtain ⟨A, c, l, hcs, h1, h2, h3, h4⟩ := opn_row Try.underlying22 opn3 hf
  simp [Value.cells] at hcs
  obtain ⟨rfl, rfl, rfl⟩ := hcs
  exact ⟨_, _, l, rfl, h1, h2, h3, h4⟩
end
end Go.Proofs.Yteodlmgmmpkpoaa.PS
end
section
namespace Go.Proofs.Yteodlmgmmpkpoaa.PS
open Go.RowKit Go.Shelf Go.Proofs.YteodlmgmmpkpoaaW.PrintWords Go.Proofs.YteodlmgmmpkpoaaW.PrintLast Go.Proofs.YteodlmgmmpkpoaaW.PrintMore
set_option linter.unusedVariables false
set_option linter.unusedSimpArgs false
structure Chg (B : Nat) (A C : World) : Prop where
  below : Below B A C
  keep : ∀ (k : Nat) (o : Obj), A.heap[k]? = some o → (∀ c f, o ≠ Obj.cells c 27 f) → C.heap[k]? = some o
theorem Chg.of_below {B : Nat} {A C : World} (hB : B ≤ A.heap.size) (h : Below A.heap.size A C) : Chg B A C := ⟨h.mono hB, fun k o hk _ => (h.block k (blk_lt hk)).trans hk⟩
theorem Chg.trans {B : Nat} {A C D : World} (h : Chg B A C) (k : Chg B C D) : Chg B A D := ⟨h.below.trans k.below, fun i o hi ho => k.keep i o (h.keep i o hi ho) ho⟩
theorem Chg.mono {B B' : Nat} {A C : World} (hB : B' ≤ B) (h : Chg B A C) : Chg B' A C := ⟨h.below.mono hB, h.keep⟩
theorem Chg.set {B : Nat} {A : World} {g j : Nat} {cs : Array Value} {f : Nat × Nat} (hg : A.heap[g]? = some (.cells cs 27 f)) (hB : B ≤ g) (v : Value) : Chg B A (A.setCell ⟨g, j, none⟩ v) :=
  ⟨(Below.refl _ _).setCell hB _, fun k o hk ho => (Below.heap_setCell _ _ _ _ (fun e : k = g => by subst e; rw [hg] at hk; cases hk; exact ho _ _ rfl)).trans hk⟩
def SeqW {α : Type} (n : Nat) (P : Program) (gf : Nat) (lb : Array Value) (encs : α → Array Value) (Kp : World → World → Prop) (G : α → Prop) (S : List α → World → Prop) (N : Nat) (w0 : World) : Prop :=
  ∀ (l : Nat) (J : List α → World → Prop) (W : World), Below w0.heap.size w0 W → (∀ s A C, J s A → Chg W.heap.size A C → J s C) →
    (∀ pre x W1, J pre W1 → pre.length < N → G x → YieldAt Fence.wide (n - 1) P l (encs x) W1 fun e W' => e = .returned (.bool true) ∧ J (pre ++ [x]) W' ∧ Kp W1 W') →
    J [] W → CallsIn Fence.wide n P gf (#[.func (.yield l) #[] #[]] ++ lb) W fun e W' => (∃ v, e = .returned v) ∧ ∃ ys, S ys W' ∧ J ys W'
theorem range_seen {α : Type} {n : Nat} {P : Program} {g : Operand} {ps : Array Tmp} {assign body : Code} {Q : Exit → Act → World → Prop} {a : Act} {w w0 : World} (h1 : 1 ≤ n) {gf : Nat} {lb : Array Value}
    (hg : a.eval g = .func (.func gf) #[] lb) (eg : ∀ args w, (callFunc gf args).run P w = .ok (.enter gf args) w) {encs : α → Array Value} {Kp : World → World → Prop} {G : α → Prop} {S : List α → World → Prop} {N : Nat}
    (hseq : SeqW (n - 1) P gf lb encs Kp G S N w0) (hKt : ∀ {A B C : World}, Kp A B → Kp B C → Kp A C) (hKb : ∀ (W : World) (l : Nat) (o o' : Obj), w.heap.size ≤ l → W.heap[l]? = some o → o.isCells = false → o.isWalk = false → Kp W (W.putObj l o'))
    (hb0 : Below w0.heap.size w0 w) (hps : ∀ x, (encs x).size = ps.size) (I : List α → World → Prop) (hI : OwnFrom w.heap.size I) (hI27 : ∀ s A C, I s A → Chg w.heap.size A C → I s C) (hS : OwnFrom w.heap.size S) (h0 : I [] w) (a1 : α → Act)
    (hassign : ∀ (l : Nat) (x : α) (W : World) (K : Act → World → Prop), G x → K (a1 x) W → assign.wpIn (Fence.wide.inRound l) (n - 1 - 1) P (Exit.then K (fun _ _ _ => False)) { tmps := (ps.zip (encs x)).foldl (fun t (p, v) => t.setIfInBounds p v) a.tmps, defers := [] } W)
    (hbody : ∀ (l : Nat) (pre : List α) (x : α) (W : World), I pre W → pre.length < N → G x → body.wpIn (Fence.wide.inRound l) (n - 1 - 1) P (ownPostG w.heap.size Kp I (fun _ _ _ => False) (pre ++ [x]) W) (a1 x) W)
    (hdone : ∀ (D : Nat) (ys : List α) (W : World), w.heap.size ≤ D → S ys W → I ys W → W.heap[D]? = some (.deferred (some [])) → Q .normal { a with defers := { target := .collected D, args := #[] } :: a.defers } W) :
    (Code.rangeFunc g ps assign body).wpIn Fence.wide n P Q a w := by
  refine wpIn_rangeFunc fun fn hfn => ?_
  obtain ⟨mk, hmk⟩ : ∃ mk : LoopState → Option Code → Loop, mk = fun st pe => { state := st, pending := pe, fn, tmps := a.tmps, params := ps, assign, body, defers := w.heap.size } := ⟨_, rfl⟩
  obtain ⟨V, hV⟩ : ∃ V, (w.alloc (.deferred (some []))).alloc (.loop (mk .ready none)) = V := ⟨_, rfl⟩
  have vl : V.heap[w.heap.size + 1]? = some (.loop (mk .ready none)) := by
    rw [← hV]; have h := blk_new (w.alloc (.deferred (some []))) (.loop (mk .ready none)); rwa [World.size_alloc] at h
  have vd : V.heap[w.heap.size]? = some (.deferred (some [])) := by rw [← hV]; exact blk_alloc (blk_new w _) _
  have vi : I [] V := by rw [← hV]; exact hI.alloc _ (hI.alloc _ h0)
  have vb : Below w0.heap.size w0 V := by rw [← hV]; exact hb0.trans ((below_alloc (below_alloc (Below.refl _ w) _) _).mono hb0.size)
  refine ⟨w.heap.size + 1, [{ target := .collected w.heap.size, args := #[] }], V, { target := .fn (.func gf) lb, args := #[.func (.yield (w.heap.size + 1)) #[] #[]] }, V, gf, #[.func (.yield (w.heap.size + 1)) #[] #[]] ++ lb, V, ?_, ?_, ?_, ?_, fun _ => h1, ?_⟩
  · rw [← hV, hmk]; exact run_enterLoop_outer _ _ _ _ _
  · simp only [resolve, hg]; simp [go_sem]
  · intro f hf; trivial
  · simp [invoke, go_sem, eg]
  refine (hseq (w.heap.size + 1) (fun pre W => I pre W ∧ W.heap[w.heap.size + 1]? = some (.loop (mk .ready none)) ∧ W.heap[w.heap.size]? = some (.deferred (some []))) V vb
    (fun s A C hs hc => ⟨hI27 s A C hs.1 (hc.mono (by rw [← hV]; simp; omega)), hc.keep _ _ hs.2.1 (by simp), hc.keep _ _ hs.2.2 (by simp)⟩) ?_ ⟨vi, vl, vd⟩).mono ?_
  · rintro pre x W ⟨hi, hl, hd⟩ hlen hG
    have hy := run_yield (P := P) (args := encs x) hl (by rw [hmk]; exact hps x)
    rw [hmk] at hy
    have hin := blk_lt hl
    refine ⟨fn, _, assign, body, hy, roundIn_of_wpIn hfn (hassign _ x W _ hG ?_)⟩
    have busy : (W.putObj (w.heap.size + 1) (.loop { mk .ready none with state := .busy })).heap[w.heap.size + 1]? = some (.loop { mk .ready none with state := .busy }) := World.putObj_heap_same hin
    have dfr : (W.putObj (w.heap.size + 1) (.loop { mk .ready none with state := .busy })).heap[w.heap.size]? = some (.deferred (some [])) := (World.putObj_heap_other (by omega)).trans hd
    have kp1 := hKb W (w.heap.size + 1) _ (.loop { mk .ready none with state := .busy }) (by omega) hl rfl rfl
    refine ⟨_, run_beginRound hl (by rw [hmk]), wpIn_mono (hbody _ pre x _ (hI.putObj _ hi (by omega) hl rfl) hlen hG) ?_⟩
    rintro e a3 W3 hp
    cases e with
    | normal =>
      obtain ⟨hk, hkp, hi3⟩ := hp
      have b3 := hk.same _ _ (by omega) busy rfl
      have d3 := hk.same _ _ (Nat.le_refl _) dfr rfl
      have hr := run_endRound (P := P) none b3
      refine ⟨_, _, hr, rfl, ⟨hI.putObj _ hi3 (by omega) b3 rfl, ?_, (World.putObj_heap_other (by omega)).trans d3⟩, hKt (hKt kp1 hkp) (hKb _ _ _ _ (by omega) b3 rfl rfl)⟩
      rw [hmk]
      exact World.putObj_heap_same (blk_lt b3)
    | ret => exact hp.2.elim
    | exit id => exact hp.2.elim
    | goto t => exact hp.2.elim
    | panic ch => exact hp.elim
    | outgrown => exact hp.elim
  · rintro e W2 ⟨⟨v, rfl⟩, ys, hs, hi, hl, hd⟩
    have hr := run_endLoop (P := P) hl (by rw [hmk]; simp)
    rw [hmk] at hr
    exact ⟨none, _, hr, hdone _ ys _ (Nat.le_refl _) (hS.putObj _ hs (by omega) hl rfl) (hI.putObj _ hi (by omega) hl rfl) ((World.putObj_heap_other (by omega)).trans hd)⟩
end Go.Proofs.Yteodlmgmmpkpoaa.PS
end
section
namespace Go.Proofs.Yteodlmgmmpkpoaa.PS
open Go.RowKit Go.Proofs.YteodlmgmmpkpoaaW.PrintWords Go.Proofs.YteodlmgmmpkpoaaW.PrintLast Go.Proofs.YteodlmgmmpkpoaaW.PrintMore
attribute [local go_sem] max2_int min2_int max_two min_two max_three min_three max_four min_four
set_option linter.unusedVariables false
set_option linter.unusedSimpArgs false
theorem run_box_nil (ad : Addr) (n c : Nat) (w : World) : (binOp .eql 38 (.slice (some ad) n c) (.slice none 0 0)).run Try.prog w = .ok (.bool false) w := by
  first | kernel_rfl | (simp [binOp, Try.underlying38, go_sem])
attribute [local go_sem] run_box_nil
set_option maxRecDepth 100000 in
set_option maxHeartbeats 1000000 in
theorem slices_Clone.calls (ad : Addr) (c0 : Nat) (l0 : List (S27)) (r : List (S27)) (w : World) (hr0 : Kd.C k27 w (some ad) l0.length l0) (hc0 : l0.length ≤ c0) (h : swashplatelaw01_box.f l0 = some r) :
    Calls Try.prog 187 #[.slice (some ad) l0.length c0] w fun e w' => ∃ v0_ : Value, e = .returned (v0_) ∧ Kd.R k27 27 w' w.heap.size (fun _ => True) v0_ r ∧ Below w.heap.size w w' := by
  have HR0 := Aside0.mk hr0
  have HC0 := Aside0.mk hc0
  clear hr0 hc0
  have HB := Aside0.mk (Below.refl w.heap.size w)
  have H : ((some (([] : List (S27)) : List (S27))).bind fun y323 => (if y323.length + l0.length < 8796093022208 then (some (y323 ++ l0)) else (none))) = some r := h
  clear h
  obtain ⟨y323, hy323⟩ : ∃ y_ : List (S27), y_ = (([] : List (S27))) := ⟨_, rfl⟩
  replace H : (if y323.length + l0.length < 8796093022208 then (some (y323 ++ l0)) else (none)) = some r := by first | (rw [hy323]; with_reducible exact H) | (have H2_ := (Option.bind_some _ _).symm.trans H; rw [hy323]; with_reducible exact H2_) | (have H2_ := (Option.bind_some _ _).symm.trans H; with_reducible exact H2_) | with_reducible exact H | (rw [hy323]; exact H) | exact H
  have Ny323 := Aside0.mk hy323
  clear hy323
  by_cases c2 : y323.length + l0.length < 8796093022208
  · rw [if_pos c2] at H
    have LMc2 := Aside0.mk c2
    clear c2
    obtain ⟨y326, hy326⟩ : ∃ y_ : List (S27), y_ = (y323 ++ l0) := ⟨_, rfl⟩
    replace H : (some y326) = some r := by first | (rw [hy326]; with_reducible exact H) | (have H2_ := (Option.bind_some _ _).symm.trans H; rw [hy326]; with_reducible exact H2_) | (have H2_ := (Option.bind_some _ _).symm.trans H; with_reducible exact H2_) | with_reducible exact H | (rw [hy326]; exact H) | exact H
    have Ny326 := Aside0.mk hy326
    clear hy326
    obtain rfl := Option.some.inj H
    go_enter Try.func187, Try.ntmps187
    go_wp2_with (first | ((with_reducible refine gate_dst (N := 5) rfl ?_); refine Kd.R_lit k27 _ 27 ?hg (N := 5) ?hd (xs := ([] : List (S27))) (inner := []) (ok := fun _ => True) (okp := fun _ => True) ?hr ?hp (fun _ hk => hk) trivial (Below.refl _ _) (Nat.le_refl _) (by simp) ?_; (case hd => rfl); (case hg => rfl); (case hr => first | (go_simp; done) | (go_simp; rfl)); (case hp => exact (Reps.none _ _)); intro v324 w3 ho4 hb hg_ hnew_; clear hg_ hnew_; (first | rw [← Ny323.out] at ho4 | (simp only [Int.reduceToNat] at ho4; rw [← Ny323.out] at ho4)); have n0_ := Aside0.mk (Kd.R_lower ho4 (below_size (by repeat (first | (with_reducible first | exact HB.out | apply below_alloc | apply pw_below_drewN | apply below_drew1) | exact HB.out)))); have n1_ := Aside0.mk (below_step (by repeat (first | (with_reducible first | exact HB.out | apply below_alloc | apply pw_below_drewN | apply below_drew1) | exact HB.out)) hb); clear HB; have HO325 := n0_; have HB := n1_; clear n0_ n1_; clear hb ho4) | ((with_reducible refine gate_builtin (b := .append) (xs := #[.tmp 5, .tmp 6]) rfl ?_); at_builtin; refine Kd.R_append_rows k27 (w0 := w) w.heap.size rfl (.tmp 5) (.tmp 6) 38 27 (.agg #[(.int .i64 0), (.int .i64 0)]) 16 rfl Try.underlying38 info27 rfl (by decide) (by omega) v324 y323 l0 _ _ _ (fun _ => True) (fun _ => False) rfl rfl ?aO ?aR (fun _ _ h => h) (fun _ h => h.elim) ?aF ?aB ?aS ?aL ?_; (case aR => repeat (first | exact (Kd.C_below HR0.out HB.out) | (with_reducible refine Kd.C_alloc ?_ _) | (with_reducible refine Kd.C_drewN ?_ _) | (with_reducible refine Kd.C_drew ?_))); (case aB => exact (by repeat (first | (with_reducible first | exact HB.out | apply below_alloc | apply pw_below_drewN | apply below_drew1) | exact HB.out))); (case aF => exact (fun _ _ => trivial)); (case aO => exact (by (with_reducible repeat (first | apply Kd.R_alloc | apply Kd.R_drewN | apply Kd.R_drew)); exact HO325.out)); (case aS => exact (below_size (by repeat (first | (with_reducible first | exact HB.out | apply below_alloc | apply pw_below_drewN | apply below_drew1) | exact HB.out)))); (case aL => have := LMc2.out; omega); intro v327 w5 ho hb hg hat; rw [← Ny326.out] at ho; have n0_ := Aside0.mk (hb); have n1_ := Aside0.mk (ho); clear HB; clear HO325; have HB := n0_; have HO328 := n1_; clear n0_ n1_; clear ho hb hg hat))
    go_ret
    exact ⟨_, rfl, by (with_reducible repeat (first | apply Kd.R_alloc | apply Kd.R_drewN | apply Kd.R_drew)); exact HO328.out, by repeat (first | (with_reducible first | exact HB.out | apply below_alloc | apply pw_below_drewN | apply below_drew1) | exact HB.out)⟩
  · rw [if_neg c2] at H
    exact absurd H (by simp)
end Go.Proofs.Yteodlmgmmpkpoaa.PS
end
section
namespace Go.Proofs.Yteodlmgmmpkpoaa.PS
open Go.RowKit Go.Shelf Go.Proofs.YteodlmgmmpkpoaaW.PrintWords Go.Proofs.YteodlmgmmpkpoaaW.PrintLast Go.Proofs.YteodlmgmmpkpoaaW.PrintMore
set_option linter.unusedVariables false
set_option linter.unusedSimpArgs false
attribute [local go_sem] Oper.semAt_some max2_int min2_int max_two min_two
abbrev YE := Value × List S27
def encY (y : YE) : Array Value := #[y.1]
def KpM (n ab bb : Nat) (A B : World) : Prop := Below n A B ∧ ∀ k c t f, A.heap[k]? = some (.cells c t f) → (t = 27 ∨ k = ab ∨ k = bb) → B.heap[k]? = some (.cells c t f)
theorem KpM.refl (n ab bb : Nat) (A : World) : KpM n ab bb A A := ⟨Below.refl _ _, fun _ _ _ _ h _ => h⟩
theorem KpM.trans {n ab bb : Nat} {A B C : World} (h : KpM n ab bb A B) (k : KpM n ab bb B C) : KpM n ab bb A C := ⟨h.1.trans k.1, fun i c t f hi hs => k.2 i c t f (h.2 i c t f hi hs) hs⟩
theorem KpM.of_below {n ab bb : Nat} {A B : World} (hn : n ≤ A.heap.size) (h : Below A.heap.size A B) : KpM n ab bb A B := ⟨h.mono hn, fun k c t f hk _ => (h.block k (blk_lt hk)).trans hk⟩
theorem KpM.cell {n ab bb : Nat} {A B : World} (h : KpM n ab bb A B) {p : Addr} {v : Value} {t : TypeId} {f : Nat × Nat} {cs : Array Value} (ho : A.heap[p.block]? = some (.cells cs t f)) (hs : t = 27 ∨ p.block = ab ∨ p.block = bb) (hc : A.cell? p = some v) : B.cell? p = some v := by
  unfold World.cell? at hc ⊢
  rw [h.2 _ _ _ _ ho hs]
  rw [ho] at hc
  exact hc
theorem KpM.set {n ab bb g j : Nat} {A C : World} (h : KpM n ab bb A C) (hn : n ≤ g) (hg : A.heap.size ≤ g) (v : Value) : KpM n ab bb A (C.setCell ⟨g, j, none⟩ v) :=
  ⟨h.1.setCell hn _, fun k c t f hk hs => (Below.heap_setCell _ _ _ _ (fun e : k = g => by have := blk_lt hk; omega)).trans (h.2 k c t f hk hs)⟩
theorem KpM.row {n ab bb base : Nat} {ok : Nat → Prop} {A B : World} {v : Value} {xs : List S27} (h : KpM n ab bb A B) (hr : Kd.R k27 27 A base ok v xs) : Kd.R k27 27 B base ok v xs :=
  Kd.R_mono (Kd.R_move (Kd.R_bound hr) (fun k hk => by
    obtain ⟨_, _, _, q, hq, cells, hc⟩ := hk
    have : q = 27 := by rw [show k27.E = [] from rfl] at hq; simpa using hq
    subst this
    exact (h.2 k _ _ _ hc (.inl rfl)).trans hc.symm)) (fun _ hk => hk.1)
def SeqY (B : Nat) (cs : List (List S27)) (ys : List YE) (W : World) : Prop :=
  ys.map Prod.snd = cs ∧ (∀ y ∈ ys, Kd.R k27 27 W B (fun k => some k = y.1.ownBlock) y.1 y.2 ∧ 0 < y.2.length) ∧ ys.Pairwise (fun y z => y.1.ownBlock ≠ z.1.ownBlock)
theorem row_put {W : World} {base g cap : Nat} {ok : Nat → Prop} {L : List S27} {m : Nat} (h : Kd.R k27 27 W base ok (.slice (some ⟨g, 0, none⟩) m cap) L) (d : Nat) (hd : d < m) (lo hi : Int) :
    Kd.R k27 27 ((W.setCell ⟨g, d * 2, none⟩ (.int .i64 lo)).setCell ⟨g, d * 2 + 1, none⟩ (.int .i64 hi)) base ok (.slice (some ⟨g, 0, none⟩) m cap) (L.set d ⟨lo, hi⟩) := by
  obtain ⟨c, hcl, hM, hcc, _⟩ := Kd.R_elem h z27 (d : Int) (by omega) (by omega)
  have := (Kd.R_seg h (d : Int) (by omega) (by omega) (c := c) (seg := [.int .i64 lo, .int .i64 hi]) (j := 0) (okp := fun _ => False) (x' := ⟨lo, hi⟩) hcl hcc (show 2 ≤ 2 from Nat.le_refl _)
    (by have hc2 : c.length = 2 := hcl; rw [show c.take 0 ++ [Value.int .i64 lo, .int .i64 hi] ++ c.drop (0 + [Value.int .i64 lo, .int .i64 hi].length) = [.int .i64 lo, .int .i64 hi] by rw [List.drop_of_length_le (by simp; omega)]; simp]; exact k27_mkM _ _ _ _) (fun _ hk => hk.elim)).1
  rw [Int.toNat_natCast] at this
  exact this
theorem box_ok {l : List S27} (h : boxB l = true) {d : Nat} (hd : d < l.length) : okS (l.getD d z27).f0 (l.getD d z27).f1 = true := by
  unfold boxB at h
  simp only [Bool.and_eq_true, List.all_eq_true] at h
  exact h.2 _ (getD_mem l z27 d hd)
def MinI (W : World) (n0 ab bb : Nat) (v : Value) (L : List S27) (ys : List YE) (wr : World) : Prop :=
  Kd.R k27 27 wr W.heap.size (fun k => some k = v.ownBlock) v L ∧
  (∀ y ∈ ys, Kd.R k27 27 wr W.heap.size (fun k => some k = y.1.ownBlock) y.1 y.2 ∧ 0 < y.2.length ∧ y.1.ownBlock ≠ v.ownBlock) ∧
  ys.Pairwise (fun y z => y.1.ownBlock ≠ z.1.ownBlock) ∧ KpM n0 ab bb W wr
theorem MinI.below {W : World} {n0 ab bb : Nat} {v : Value} {L : List S27} {ys : List YE} {wr wq : World} (h : MinI W n0 ab bb v L ys wr) (hw : n0 ≤ wr.heap.size) (hn : Below wr.heap.size wr wq) : MinI W n0 ab bb v L ys wq :=
  ⟨Kd.R_below h.1 hn, fun y hy => ⟨Kd.R_below (h.2.1 y hy).1 hn, (h.2.1 y hy).2⟩, h.2.2.1, h.2.2.2.1.trans (hn.mono hw), fun k c t f hk hs => (hn.block k (blk_lt (h.2.2.2.2 k c t f hk hs))).trans (h.2.2.2.2 k c t f hk hs)⟩
theorem MinI.size {W : World} {n0 ab bb : Nat} {v : Value} {L : List S27} {ys : List YE} {wr : World} (h : MinI W n0 ab bb v L ys wr) : W.heap.size ≤ wr.heap.size := h.2.2.2.1.size
def cutP (pre : List S27) (sa : S27) (m : Int) (av : List S27) : List (List S27) := if sa.f0 ≤ m then [pre ++ ⟨sa.f0, m⟩ :: av] else []
def cutQ (pre : List S27) (sa : S27) (M : Int) (av : List S27) : List (List S27) := if M ≤ sa.f1 then [pre ++ ⟨M, sa.f1⟩ :: av] else []
def cutR (pre : List S27) (sa sb : S27) (av bv : List S27) : List (List S27) := if max sa.f0 sb.f0 ≤ min sa.f1 sb.f1 then cutT (pre ++ [⟨max sa.f0 sb.f0, min sa.f1 sb.f1⟩]) av bv else []
def cutAt (i : Nat) (pre : List S27) (sa sb : S27) (m M : Int) (av bv : List S27) : List (List S27) :=
  match i with
  | 0 => cutP pre sa m av ++ (cutQ pre sa M av ++ cutR pre sa sb av bv)
  | 1 => cutQ pre sa M av ++ cutR pre sa sb av bv
  | _ => cutR pre sa sb av bv
theorem part_at {i : Nat} (h : i < 2) (pre : List S27) (sa sb : S27) (m M : Int) (av bv : List S27) : ∃ lo hi : Int,
    (∀ w : World, (Instr.index 226 (.agg #[.int .i64 sa.f0, .int .i64 m, .int .i64 M, .int .i64 sa.f1]) (.int .i64 (i : Int))).run Try.prog w = .ok (.agg #[.int .i64 lo, .int .i64 hi]) w) ∧
    cutAt i pre sa sb m M av bv = (if lo ≤ hi then [pre ++ ⟨lo, hi⟩ :: av] else []) ++ cutAt (i + 1) pre sa sb m M av bv := by
  match i, h with
  | 0, _ => exact ⟨sa.f0, m, fun w => by kernel_rfl, rfl⟩
  | 1, _ => exact ⟨M, sa.f1, fun w => by kernel_rfl, rfl⟩
def minus1.T12 : Bool × List (List Nat × List Nat) := (true, [([], []), ([], []), ([], []), ([], []), ([], []), ([], []), ([4, 5], [4, 5]), ([6], [6]), ([7], [7]), ([], []), ([], []), ([9, 10], [9, 10]), ([11], [11]), ([12], [12]), ([8, 13], [8, 13]), ([], []), ([], []), ([15, 16], [15, 16]), ([17], [17]), ([18], [18]), ([], []), ([], []), ([20, 21], [20, 21]), ([22], [22]), ([23], [23]), ([19, 24], [19, 24]), ([0, 1, 0, 1, 4, 5, 6, 7, 8, 9, 10, 11, 12, 13, 14, 19, 24], [0, 1]), ([26, 0, 1, 4, 5, 6, 7, 8, 9, 10, 11, 12, 13, 14, 19, 24], [26]), ([27, 14, 0, 1, 4, 5, 6, 7, 8, 9, 10, 11, 12, 13, 14, 19, 24], [14, 27]), ([2, 3, 0, 1, 2, 3, 4, 5, 6, 7, 8, 9, 10, 11, 12, 13, 14, 15, 16, 17, 18, 19, 20, 21, 22, 23, 24, 25, 26, 27, 28], [2, 3]), ([29, 0, 1, 2, 3, 4, 5, 6, 7, 8, 9, 10, 11, 12, 13, 14, 15, 16, 17, 18, 19, 20, 21, 22, 23, 24, 25, 26, 27, 28], [29]), ([30, 25, 28, 0, 1, 2, 3, 4, 5, 6, 7, 8, 9, 10, 11, 12, 13, 14, 15, 16, 17, 18, 19, 20, 21, 22, 23, 24, 25, 26, 27, 28], [25, 30])])
def minus1.B12 : List Nat := [0, 0, 0, 0, 0, 0, 48, 112, 240, 0, 0, 1536, 3584, 7680, 16368, 0, 0, 98304, 229376, 491520, 0, 0, 3145728, 7340032, 15728640, 33521664, 33554419, 100663283, 234881011, 536870911, 1073741823, 2147483647]
theorem minus1.tab12 : rtab .any (opsOf Try.f186 12) = minus1.T12 := by kernel_rfl
theorem minus1.bits12 : waitsOk minus1.T12.2 minus1.B12 = true := by kernel_rfl
set_option maxRecDepth 100000 in
set_option maxHeartbeats 4000000 in
theorem minus1_in (n : Nat) (hn : 1 ≤ n) (l ab bb : Nat) (hab : ab ≠ bb) (Aa : Addr) (ca : Nat) (Ab : Addr) (cb : Nat) (a b : List S27) (ha : boxB a = true) (hb : boxB b = true) (hlen : a.length = b.length) (w0 : World)
    (hra : Kd.C k27 w0 (some Aa) a.length a) (hca : a.length ≤ ca) (hrb : Kd.C k27 w0 (some Ab) b.length b) (hcb : b.length ≤ cb)
    (J : List YE → World → Prop)
    (hY : ∀ pre x W, J pre W → pre.length < 6 → (∃ A m c, x.1 = Value.slice A m c) → YieldAt Fence.wide (n - 1) Try.prog l (encY x) W fun e W' => e = .returned (.bool true) ∧ J (pre ++ [x]) W' ∧ KpM w0.heap.size ab bb W W')
    (W : World) (hJ : ∀ s A C, J s A → Chg W.heap.size A C → J s C) (hbel : Below w0.heap.size w0 W)
    (bA : W.heap[ab]? = some (.cells #[.slice (some Aa) a.length ca] 38 (0, 0))) (bB : W.heap[bb]? = some (.cells #[.slice (some Ab) b.length cb] 38 (0, 0))) (hJ0 : J [] W) :
    CallsIn Fence.wide n Try.prog 186 #[.func (.yield l) #[] #[], .pointer (some ⟨ab, 0, none⟩), .pointer (some ⟨bb, 0, none⟩)] W fun e W' => (∃ v, e = .returned v) ∧ ∃ ys, SeqY W.heap.size (cutT [] a b) ys W' ∧ J ys W' := by
  have HRA := Aside0.mk hra
  have HRB := Aside0.mk hrb
  have HBel := Aside0.mk hbel
  have HA := Aside0.mk bA
  have HB := Aside0.mk bB
  have HBOX : Aside0 (boxB a = true ∧ boxB b = true) := ⟨ha, hb⟩
  have hl := ha
  unfold boxB at hl
  simp only [Bool.and_eq_true, decide_eq_true_eq] at hl
  have la0 := hl.1.1
  have la3 := hl.1.2
  have HY := Aside0.mk hY
  have HJ := Aside0.mk hJ
  have HJ0 := Aside0.mk hJ0
  have HLEN := Aside0.mk hlen
  have ax := (blk_cell bA 0).trans rfl
  clear hra hrb hbel bA bB ha hb hl hY hJ hJ0 hlen
  refine callsIn_of_wp Try.func186 rfl trivial ?_ rfl
  simp only [Try.ntmps186, List.size_toArray, List.length_cons, List.length_nil, Nat.reduceAdd, Nat.reduceSub, Array.replicate_succ, Array.replicate_zero, List.push_toArray, List.append_toArray, List.nil_append, List.cons_append]
  gi_wp2_with (refine ⟨trivial, ?_⟩; gi_at_call 187; refine (callsIn_wide.2 (slices_Clone.calls Aa ca a a _ (Kd.C_below HRA.out HBel.out) hca (box_total a (by omega)))).mono ?_; rintro e w1 ⟨v, rfl, hR, hb1⟩; obtain ⟨g, cap, rfl, hg1, hg2, cells, hcell⟩ := Kd.R_form hR la0)
  have HI0 : Aside0 (MinI W w0.heap.size ab bb (.slice (some ⟨g, 0, none⟩) a.length cap) a [] w1) := ⟨⟨Kd.R_tight rfl hR, (by intro y hy; simp at hy), List.Pairwise.nil, KpM.of_below HBel.out.size hb1⟩⟩
  have HJ1 := Aside0.mk (HJ.out [] W w1 HJ0.out (Chg.of_below (Nat.le_refl _) hb1))
  have HG := Aside0.mk (show W.heap.size ≤ g ∧ ab < W.heap.size ∧ bb < W.heap.size from ⟨hg1, blk_lt HA.out, blk_lt HB.out⟩)
  clear hR hb1 hg1 hg2 hcell ax HJ0
  gi_loopw [13] (fun v13 wr => ∃ (d : Nat) (pre : List S27) (ys : List YE), v13 = .int .i64 d ∧ Aside0 (d ≤ a.length ∧ pre.length = d ∧ ys.length ≤ 2 * d) ∧ Aside0 (ys.map Prod.snd ++ cutT pre (a.drop d) (b.drop d) = cutT [] a b) ∧
      Aside0 (MinI W w0.heap.size ab bb (.slice (some ⟨g, 0, none⟩) a.length cap) (pre ++ a.drop d) ys wr) ∧ Aside0 (J ys wr))
    (fun v13 _ => a.length - (intOf v13).toNat)
  case atStart => exact ⟨0, [], [], rfl, ⟨Nat.zero_le _, rfl, Nat.le_refl _⟩, ⟨by simp⟩, ⟨by simpa using HI0.out⟩, HJ1⟩
  case round =>
    obtain ⟨d, pre, ys, rfl, HD, HC, HI, HJr⟩ := hrel
    by_cases hlt : d < a.length
    · have hpl := HD.out.2.1
      have hLL : (pre ++ a.drop d).length = a.length := by simp; omega
      have hrl : rd_T27 (pre ++ a.drop d) (d : Int) = a.getD d z27 := by
        rw [rdT27_nat]
        simp only [List.getD_eq_getElem?_getD]
        rw [List.getElem?_append_right (by omega), hpl, Nat.sub_self, List.getElem?_drop, Nat.add_zero]
      have hLb := HLEN.out
      obtain ⟨ad, e0, x0, x1⟩ := at_T27 (Kd.R_reads' HI.out.1).2.2 (d : Int) (by omega) (by simpa using by omega)
      obtain rfl : ad = ⟨g, 0, none⟩ := by injection e0 with e0; exact e0.symm
      obtain ⟨ad, e1, y0, y1⟩ := at_T27 (Kd.C_below HRB.out (HBel.out.trans HI.out.2.2.2.1)) (d : Int) (by omega) (by omega)
      obtain rfl : ad = Ab := by injection e1 with e1; exact e1.symm
      have add0 : (Addr.mk g 0 none).add (d * 2) = ⟨g, d * 2, none⟩ := by unfold Addr.add; split <;> simp_all
      rw [hrl, Int.toNat_natCast, add0] at x0 x1
      rw [rdT27_nat, Int.toNat_natCast] at y0 y1
      have ok1 : okS (a.getD d z27).f0 (a.getD d z27).f1 = true := box_ok HBOX.out.1 hlt
      have ok2 : okS (b.getD d z27).f0 (b.getD d z27).f1 = true := box_ok HBOX.out.2 (by omega)
      obtain ⟨sa, hsa⟩ : ∃ s, a.getD d z27 = s := ⟨_, rfl⟩
      obtain ⟨sb, hsb⟩ : ∃ s, b.getD d z27 = s := ⟨_, rfl⟩
      rw [hsa] at x0 x1 ok1
      rw [hsb] at y0 y1 ok2
      unfold okS at ok1 ok2
      simp only [Bool.and_eq_true, decide_eq_true_eq] at ok1 ok2
      have ca' := (blk_cell (HI.out.2.2.2.2 _ _ _ _ HA.out (.inr (.inl rfl))) 0).trans rfl
      have cb' := (blk_cell (HI.out.2.2.2.2 _ _ _ _ HB.out (.inr (.inr rfl))) 0).trans rfl
      have wr1 : IntKind.i64.wrap (sb.f0 - 1) = sb.f0 - 1 := wrI (by omega) (by omega)
      have wr2 : IntKind.i64.wrap (sb.f1 + 1) = sb.f1 + 1 := wrI (by omega) (by omega)
      have hlt2 : d < b.length := by omega
      clear hLb hpl hLL hrl e0 e1 add0
      gi_wp2
      refine wpIn_wide.2 ?_
      go_quiet (fail)
      obtain ⟨m, hm⟩ : ∃ m, (if sb.f0 - 1 < sa.f1 then sb.f0 - 1 else sa.f1) = m := ⟨_, rfl⟩
      obtain ⟨M, hM⟩ : ∃ M, (if sa.f0 < sb.f1 + 1 then sb.f1 + 1 else sa.f0) = M := ⟨_, rfl⟩
      rw [hm, hM]
      have hmn : m = min sa.f1 (sb.f0 - 1) := by rw [← hm]; split <;> omega
      have hmx : M = max sa.f0 (sb.f1 + 1) := by rw [← hM]; split <;> omega
      have bq : Below wr.heap.size wr (wr.drewN nq) := pw_below_drewN (Below.refl _ _) nq
      obtain ⟨wq, hwq⟩ : ∃ wq, wr.drewN nq = wq := ⟨_, rfl⟩
      rw [hwq] at bq ⊢
      have HIq := Aside0.mk (HI.out.below (Nat.le_trans HBel.out.size HI.out.size) bq)
      have HJq := Aside0.mk (HJ.out ys wr wq HJr.out (Chg.of_below HI.out.size bq))
      have HCq : Aside0 (ys.map Prod.snd ++ (cutP pre sa m (a.drop (d + 1)) ++ (cutQ pre sa M (a.drop (d + 1)) ++ cutR pre sa sb (a.drop (d + 1)) (b.drop (d + 1)))) = cutT [] a b) := ⟨by
        rw [← HC.out, drop_stepG z27 a d hlt, drop_stepG z27 b d hlt2, hsa, hsb, hmn, hmx]; rfl⟩
      have HS : Aside0 (sa = a.getD d z27 ∧ sb = b.getD d z27) := ⟨hsa.symm, hsb.symm⟩
      have HMN : Aside0 (m = min sa.f1 (sb.f0 - 1) ∧ M = max sa.f0 (sb.f1 + 1)) := ⟨hmn, hmx⟩
      clear hmn hmx hm hM hwq bq x0 x1 y0 y1 ca' cb' wr1 wr2 hsa hsb HI HJr HC
      gi_wp2
      gi_loopw [53] (fun v53 ws => ∃ (i : Nat) (zs : List YE), v53 = .int .i64 i ∧ Aside0 (i ≤ 2 ∧ zs.length ≤ 2 * d + i) ∧
          Aside0 (zs.map Prod.snd ++ cutAt i pre sa sb m M (a.drop (d + 1)) (b.drop (d + 1)) = cutT [] a b) ∧
          Aside0 (MinI W w0.heap.size ab bb (.slice (some ⟨g, 0, none⟩) a.length cap) (pre ++ a.drop d) zs ws) ∧ Aside0 (J zs ws))
        (fun v53 _ => 2 - (intOf v53).toNat)
      case atStart => exact ⟨0, ys, rfl, ⟨by omega, by have := HD.out.2.2; omega⟩, HCq, HIq, HJq⟩
      case round =>
        obtain ⟨i, zs, rfl, HN, HCs, HIs, HJs⟩ := hrel
        by_cases hi2 : i < 2
        · obtain ⟨lo, hi, hidx, hcut⟩ := part_at hi2 pre sa sb m M (a.drop (d + 1)) (b.drop (d + 1))
          have HCut := Aside0.mk hcut
          have hdec : decide ((i : Int) < 2) = true := decide_eq_true (by omega)
          clear hcut
          by_cases hle : lo ≤ hi
          · have hdec2 : decide (hi < lo) = false := decide_eq_false (by omega)
            gi_wp2_with fail
            have hLL : (pre ++ a.drop d).length = a.length := by have := HD.out; simp; omega
            obtain ⟨L, hL⟩ : ∃ L, pre ++ a.drop d = L := ⟨_, rfl⟩
            have hI := HIs.out
            rw [hL] at hI hLL
            have hset : L.set d ⟨lo, hi⟩ = pre ++ ⟨lo, hi⟩ :: a.drop (d + 1) := by
              rw [← hL, drop_stepG z27 a d hlt, List.set_append_right _ _ (by have := HD.out; omega), show d - pre.length = 0 by have := HD.out; omega]; rfl
            have b1 : Below wr.heap.size wr (wr.alloc (.cells #[.int .i64 lo, .int .i64 hi] 27)) := below_alloc (Below.refl _ _) _
            have kP := blk_new wr (.cells #[.int .i64 lo, .int .i64 hi] 27)
            have hwz : (wr.alloc (.cells #[.int .i64 lo, .int .i64 hi] 27)).heap.size = wr.heap.size + 1 := World.size_alloc _ _
            obtain ⟨wp, hwp⟩ : ∃ wp, wr.alloc (.cells #[.int .i64 lo, .int .i64 hi] 27) = wp := ⟨_, rfl⟩
            rw [hwp] at b1 kP hwz ⊢
            have hred := Kd.R_reads' hI.1
            have hcl := slices_Clone.calls ⟨g, 0, none⟩ cap L L wp (Kd.C_below hred.2.2 b1) (by omega) (box_total L (by omega))
            rw [hLL] at hcl
            refine ⟨trivial, (callsIn_wide.2 hcl).mono ?_⟩
            rintro e w2 ⟨v2, rfl, hR2, hb2⟩
            obtain ⟨gc, capc, rfl, hgc1, hgc2, cells, hcell⟩ := Kd.R_form hR2 (by omega)
            rw [hLL] at hR2 ⊢
            have kP2 := blk_below kP hb2
            have hgl : g < wr.heap.size := Kd.R_lt hI.1 g rfl
            obtain ⟨c, hcl2, hM2, hcc, hfr⟩ := Kd.R_elem hR2 z27 (d : Int) (by omega) (by omega)
            obtain rfl := k27_openM hM2
            have z0 := hcc 0 _ rfl
            have z1 := hcc 1 _ rfl
            have f0 := hfr 0
            have f1 := hfr 1
            rw [Int.toNat_natCast, show k27.sz = 2 from rfl] at z0 z1 f0 f1
            rw [Nat.add_zero] at z0 f0
            have p0 : w2.cell? ⟨wr.heap.size, 0, none⟩ = some (.int .i64 lo) := (blk_cell kP2 0).trans rfl
            have p1 : w2.cell? ⟨wr.heap.size, 1, none⟩ = some (.int .i64 hi) := (blk_cell kP2 1).trans rfl
            have hput := row_put hR2 d (by omega) lo hi
            rw [hset] at hput
            have b12 : Below wr.heap.size wr w2 := b1.trans (hb2.mono b1.size)
            have b4 : Below wr.heap.size wr ((w2.setCell ⟨gc, d * 2, none⟩ (.int .i64 lo)).setCell ⟨gc, d * 2 + 1, none⟩ (.int .i64 hi)) := below_set (below_set b12 (by omega)) (by omega)
            obtain ⟨fn, tmps, assign, body, hy, hRnd⟩ := HY.out zs (.slice (some ⟨gc, 0, none⟩) a.length capc, pre ++ ⟨lo, hi⟩ :: a.drop (d + 1)) _ (HJ.out zs wr _ HJs.out (Chg.of_below HIs.out.size b4)) (by have := HN.out; omega) ⟨_, _, _, rfl⟩
            have HR' := Aside0.mk hRnd
            have HPut := Aside0.mk hput
            have HB4 := Aside0.mk b4
            have HGC : Aside0 (wr.heap.size < gc ∧ g < wr.heap.size ∧ wr.heap.size ≤ wp.heap.size) := ⟨by omega, hgl, by omega⟩
            rw [show encY (Value.slice (some ⟨gc, 0, none⟩) a.length capc, pre ++ ⟨lo, hi⟩ :: a.drop (d + 1)) = #[.slice (some ⟨gc, 0, none⟩) a.length capc] from rfl] at hy
            clear hL hI hLL hset b1 kP hwz hwp hred hcl hR2 hb2 hgc1 hgc2 hcell kP2 hgl hM2 hcc hfr hput b12 b4 hRnd hcl2
            gi_wp2
            refine HR'.out.mono ?_
            rintro e w5 ⟨rfl, hJ5, hK5⟩
            have HJ5 := Aside0.mk hJ5
            have HK5 := Aside0.mk hK5
            clear hJ5 hK5 hy z0 z1 f0 f1 p0 p1 hidx hdec2
            gi_wp2
            go_roundw
            case measure => simp [intOf]; omega
            case rel =>
              have hI4 := HIs.out.below (Nat.le_trans HBel.out.size HIs.out.size) HB4.out
              have hne : (Value.slice (some ⟨gc, 0, none⟩) a.length capc).ownBlock ≠ (Value.slice (some ⟨g, 0, none⟩) a.length cap).ownBlock := by (simp [Value.ownBlock]; have := HGC.out; omega)
              refine ⟨i + 1, zs ++ [(.slice (some ⟨gc, 0, none⟩) a.length capc, pre ++ ⟨lo, hi⟩ :: a.drop (d + 1))], by go_num, ⟨by omega, by have := HN.out; simp; omega⟩, ⟨?_⟩, ⟨⟨HK5.out.row hI4.1, fun y hy => ?_, ?_, hI4.2.2.2.trans HK5.out⟩⟩, HJ5⟩
              · rw [← HCs.out, HCut.out, if_pos hle]
                simp [List.map_append, List.append_assoc]
              · rcases List.mem_append.1 hy with h | h
                · exact ⟨HK5.out.row (hI4.2.1 y h).1, (hI4.2.1 y h).2⟩
                · rw [List.mem_singleton.1 h]
                  exact ⟨HK5.out.row (Kd.R_tight rfl (Kd.R_lower HPut.out (by have := HIs.out.size; have := HGC.out; omega))), (by show 0 < (pre ++ (⟨lo, hi⟩ : S27) :: a.drop (d + 1)).length; rw [List.length_append, List.length_cons]; omega), hne⟩
              · rw [List.pairwise_append]
                refine ⟨hI4.2.2.1, List.pairwise_singleton _ _, fun y hy z hz => ?_⟩
                rw [List.mem_singleton.1 hz]
                intro he
                have h2 : y.1.ownBlock = some gc := he
                have := Kd.R_lt (HIs.out.2.1 y hy).1 gc h2
                have := HGC.out
                omega
          · have hdec2 : decide (hi < lo) = true := decide_eq_true (by omega)
            gi_wp2
            go_roundw
            case measure => simp [intOf]; omega
            case rel =>
              have b1 : Below wr.heap.size wr (wr.alloc (.cells #[.int .i64 lo, .int .i64 hi] 27)) := below_alloc (Below.refl _ _) _
              exact ⟨i + 1, zs, by go_num, ⟨by omega, by have := HN.out; omega⟩, ⟨by rw [← HCs.out, HCut.out, if_neg hle]; rfl⟩, ⟨HIs.out.below (Nat.le_trans HBel.out.size HIs.out.size) b1⟩, ⟨HJ.out _ _ _ HJs.out (Chg.of_below HIs.out.size b1)⟩⟩
        · have hdec : decide ((i : Int) < 2) = false := decide_eq_false (by omega)
          have hi3 : i = 2 := by have := HN.out; omega
          have hLL : (pre ++ a.drop d).length = a.length := by have := HD.out; simp; omega
          have hLd : (pre ++ a.drop d).getD d z27 = sa := by
            rw [HS.out.1]
            simp only [List.getD_eq_getElem?_getD]
            rw [List.getElem?_append_right (by have := HD.out; omega), HD.out.2.1, Nat.sub_self, List.getElem?_drop, Nat.add_zero]
          obtain ⟨c, hcl2, hM2, hcc, hfr⟩ := Kd.R_elem HIs.out.1 z27 (d : Int) (by omega) (by omega)
          obtain rfl := k27_openM hM2
          have x0 := hcc 0 _ rfl
          have x1 := hcc 1 _ rfl
          have f0 := hfr 0
          have f1 := hfr 1
          rw [Int.toNat_natCast, show k27.sz = 2 from rfl] at x0 x1 f0 f1
          rw [Nat.add_zero] at x0 f0
          rw [hLd] at x0 x1
          obtain ⟨ad2, e2, y0, y1⟩ := at_T27 (Kd.C_below HRB.out (HBel.out.trans HIs.out.2.2.2.1)) (d : Int) (by omega) (by omega)
          obtain rfl : ad = ad2 := by injection e2
          rw [rdT27_nat, Int.toNat_natCast, ← HS.out.2] at y0 y1
          have cb2 := (blk_cell (HIs.out.2.2.2.2 _ _ _ _ HB.out (.inr (.inr rfl))) 0).trans rfl
          have bz : Below wr.heap.size wr wr.drew := below_drew (Below.refl _ wr)
          have HIz := Aside0.mk (HIs.out.below (Nat.le_trans HBel.out.size HIs.out.size) bz)
          have HJz := Aside0.mk (HJ.out zs wr wr.drew HJs.out (Chg.of_below HIs.out.size bz))
          have HI3 := Aside0.mk hi3
          clear hLL hLd hcl2 hM2 hcc hfr e2 bz hi3
          replace f0 : wr.drew.frozen? ⟨g, d * 2, none⟩ = false := f0
          replace f1 : wr.drew.frozen? ⟨g, d * 2 + 1, none⟩ = false := f1
          gi_wp2
          refine wpIn_wide.2 ?_
          refine start_ (n := 32) (S := fun w' => w'.cell? ⟨g, d * 2, none⟩ = some (.int .i64 sa.f0) ∧ w'.cell? ⟨g, d * 2 + 1, none⟩ = some (.int .i64 sa.f1) ∧ w'.cell? ⟨bb, 0, none⟩ = some (.slice (some ad) b.length cb) ∧ w'.cell? (ad.add (d * 2)) = some (.int .i64 sb.f0) ∧ w'.cell? ⟨(ad.add (d * 2)).block, (ad.add (d * 2)).off + 1, none⟩ = some (.int .i64 sb.f1)) (ds := [28, 31]) #[false, false, false, false, false, false, false, false, false, false, false, false, false, false, false, false, false, false, false, false, false, false, false, false, false, false, false, false, false, false, false, false] (by kernel_rfl) rfl rfl ⟨x0, x1, cb2, y0, y1⟩ (fun hHeld => ?_)
          refine with_tabW minus1.tab12 minus1.bits12 (fun HT_ HW_ => ?_)
          generalize wr.drew = wz at HIz HJz f0 f1 hHeld ⊢
          refine pure_ (i := 0) (N := some 72) (v := ?_) (a' := ?_) #[true, false, false, false, false, false, false, false, false, false, false, false, false, false, false, false, false, false, false, false, false, false, false, false, false, false, false, false, false, false, false, false] rfl rfl (any_of HT_.out (by kernel_rfl)) (fun _ _ _ h => h) (Or.inl ⟨by rfl, ?_⟩) ?_ ?_
          rotate_left
          · intro w'
            go_simp
            with_reducible rfl
          rotate_left
          · simp only [Act.put, List.setIfInBounds_toArray, List.set_cons_zero, List.set_cons_succ, i64_w, i32_w]
            rfl
          refine pure_ (i := 1) (N := some 73) (v := ?_) (a' := ?_) #[true, true, false, false, false, false, false, false, false, false, false, false, false, false, false, false, false, false, false, false, false, false, false, false, false, false, false, false, false, false, false, false] rfl rfl (any_of HT_.out (by kernel_rfl)) (fun _ _ _ h => h) (Or.inl ⟨by rfl, ?_⟩) ?_ ?_
          rotate_left
          · intro w'
            go_simp
            with_reducible rfl
          rotate_left
          · simp only [Act.put, List.setIfInBounds_toArray, List.set_cons_zero, List.set_cons_succ, i64_w, i32_w]
            rfl
          refine pure_ (i := 2) (N := some 74) (v := ?_) (a' := ?_) #[true, true, true, false, false, false, false, false, false, false, false, false, false, false, false, false, false, false, false, false, false, false, false, false, false, false, false, false, false, false, false, false] rfl rfl (any_of HT_.out (by kernel_rfl)) (fun _ _ _ h => h) (Or.inl ⟨by rfl, ?_⟩) ?_ ?_
          rotate_left
          · intro w'
            go_simp
            with_reducible rfl
          rotate_left
          · simp only [Act.put, List.setIfInBounds_toArray, List.set_cons_zero, List.set_cons_succ, i64_w, i32_w]
            rfl
          refine pure_ (i := 3) (N := some 75) (v := ?_) (a' := ?_) #[true, true, true, true, false, false, false, false, false, false, false, false, false, false, false, false, false, false, false, false, false, false, false, false, false, false, false, false, false, false, false, false] rfl rfl (any_of HT_.out (by kernel_rfl)) (fun _ _ _ h => h) (Or.inl ⟨by rfl, ?_⟩) ?_ ?_
          rotate_left
          · intro w'
            go_simp
            with_reducible rfl
          rotate_left
          · simp only [Act.put, List.setIfInBounds_toArray, List.set_cons_zero, List.set_cons_succ, i64_w, i32_w]
            rfl
          refine pure_ (i := 4) (N := some 76) (v := ?_) (a' := ?_) #[true, true, true, true, true, false, false, false, false, false, false, false, false, false, false, false, false, false, false, false, false, false, false, false, false, false, false, false, false, false, false, false] rfl rfl (any_of HT_.out (by kernel_rfl)) (fun _ _ _ h => h) (Or.inl ⟨by rfl, ?_⟩) ?_ ?_
          rotate_left
          · intro w'
            go_simp
            with_reducible rfl
          rotate_left
          · simp only [Act.put, List.setIfInBounds_toArray, List.set_cons_zero, List.set_cons_succ, i64_w, i32_w]
            rfl
          refine pure_ (i := 5) (N := some 77) (v := ?_) (a' := ?_) #[true, true, true, true, true, true, false, false, false, false, false, false, false, false, false, false, false, false, false, false, false, false, false, false, false, false, false, false, false, false, false, false] rfl rfl (any_of HT_.out (by kernel_rfl)) (fun _ _ _ h => h) (Or.inl ⟨by rfl, ?_⟩) ?_ ?_
          rotate_left
          · intro w'
            go_simp
            with_reducible rfl
          rotate_left
          · simp only [Act.put, List.setIfInBounds_toArray, List.set_cons_zero, List.set_cons_succ, i64_w, i32_w]
            rfl
          refine pure_ (i := 6) (N := some 78) (v := ?_) (a' := ?_) #[true, true, true, true, true, true, true, false, false, false, false, false, false, false, false, false, false, false, false, false, false, false, false, false, false, false, false, false, false, false, false, false] rfl rfl (any_of HT_.out (by kernel_rfl)) (fun _ _ _ h => h) (Or.inl ⟨by rfl, ?_⟩) ?_ ?_
          rotate_left
          · intro w'
            go_simp
            with_reducible rfl
          rotate_left
          · simp only [Act.put, List.setIfInBounds_toArray, List.set_cons_zero, List.set_cons_succ, i64_w, i32_w]
            rfl
          refine pure_ (i := 7) (N := some 79) (v := ?_) (a' := ?_) #[true, true, true, true, true, true, true, true, false, false, false, false, false, false, false, false, false, false, false, false, false, false, false, false, false, false, false, false, false, false, false, false] rfl rfl (any_of HT_.out (by kernel_rfl)) (fun _ _ _ h => h) (Or.inl ⟨by rfl, ?_⟩) ?_ ?_
          rotate_left
          · intro w'
            go_simp
            with_reducible rfl
          rotate_left
          · simp only [Act.put, List.setIfInBounds_toArray, List.set_cons_zero, List.set_cons_succ, i64_w, i32_w]
            rfl
          refine take_ (i := 8) (N := some 80) (v := ?_) (a' := ?_) #[true, true, true, true, true, true, true, true, true, false, false, false, false, false, false, false, false, false, false, false, false, false, false, false, false, false, false, false, false, false, false, false] rfl rfl (take_ofW HT_.out HW_.out (by kernel_rfl)) (fun _ _ _ h => h) (Or.inl ⟨by rfl, ?_⟩) hHeld ?_ ?_
          rotate_left
          · rintro w' ⟨s0, s1, s2, s3, s4⟩
            go_simp
            with_reducible rfl
          rotate_left
          · simp only [Act.put, List.setIfInBounds_toArray, List.set_cons_zero, List.set_cons_succ, i64_w, i32_w]
            rfl
          refine take_ (i := 9) (N := some 81) (v := ?_) (a' := ?_) #[true, true, true, true, true, true, true, true, true, true, false, false, false, false, false, false, false, false, false, false, false, false, false, false, false, false, false, false, false, false, false, false] rfl rfl (take_ofW HT_.out HW_.out (by kernel_rfl)) (fun _ _ _ h => h) (Or.inl ⟨by rfl, ?_⟩) hHeld ?_ ?_
          rotate_left
          · rintro w' ⟨s0, s1, s2, s3, s4⟩
            go_simp
            with_reducible rfl
          rotate_left
          · simp only [Act.put, List.setIfInBounds_toArray, List.set_cons_zero, List.set_cons_succ, i64_w, i32_w]
            rfl
          refine pure_ (i := 10) (N := some 82) (v := ?_) (a' := ?_) #[true, true, true, true, true, true, true, true, true, true, true, false, false, false, false, false, false, false, false, false, false, false, false, false, false, false, false, false, false, false, false, false] rfl rfl (any_of HT_.out (by kernel_rfl)) (fun _ _ _ h => h) (Or.inl ⟨by rfl, ?_⟩) ?_ ?_
          rotate_left
          · intro w'
            go_simp
            with_reducible rfl
          rotate_left
          · simp only [Act.put, List.setIfInBounds_toArray, List.set_cons_zero, List.set_cons_succ, i64_w, i32_w]
            rfl
          refine pure_ (i := 11) (N := some 83) (v := ?_) (a' := ?_) #[true, true, true, true, true, true, true, true, true, true, true, true, false, false, false, false, false, false, false, false, false, false, false, false, false, false, false, false, false, false, false, false] rfl rfl (any_of HT_.out (by kernel_rfl)) (fun _ _ _ h => h) (Or.inl ⟨by rfl, ?_⟩) ?_ ?_
          rotate_left
          · intro w'
            go_simp
            with_reducible rfl
          rotate_left
          · simp only [Act.put, List.setIfInBounds_toArray, List.set_cons_zero, List.set_cons_succ, i64_w, i32_w]
            rfl
          refine pure_ (i := 12) (N := some 84) (v := ?_) (a' := ?_) #[true, true, true, true, true, true, true, true, true, true, true, true, true, false, false, false, false, false, false, false, false, false, false, false, false, false, false, false, false, false, false, false] rfl rfl (any_of HT_.out (by kernel_rfl)) (fun _ _ _ h => h) (Or.inl ⟨by rfl, ?_⟩) ?_ ?_
          rotate_left
          · intro w'
            go_simp
            with_reducible rfl
          rotate_left
          · simp only [Act.put, List.setIfInBounds_toArray, List.set_cons_zero, List.set_cons_succ, i64_w, i32_w]
            rfl
          refine take_ (i := 13) (N := some 85) (v := ?_) (a' := ?_) #[true, true, true, true, true, true, true, true, true, true, true, true, true, true, false, false, false, false, false, false, false, false, false, false, false, false, false, false, false, false, false, false] rfl rfl (take_ofW HT_.out HW_.out (by kernel_rfl)) (fun _ _ _ h => h) (Or.inl ⟨by rfl, ?_⟩) hHeld ?_ ?_
          rotate_left
          · rintro w' ⟨s0, s1, s2, s3, s4⟩
            go_simp
            with_reducible rfl
          rotate_left
          · simp only [Act.put, List.setIfInBounds_toArray, List.set_cons_zero, List.set_cons_succ, i64_w, i32_w]
            rfl
          refine pure_ (i := 14) (N := some 86) (v := ?_) (a' := ?_) #[true, true, true, true, true, true, true, true, true, true, true, true, true, true, true, false, false, false, false, false, false, false, false, false, false, false, false, false, false, false, false, false] rfl rfl (any_of HT_.out (by kernel_rfl)) (fun _ _ _ h => h) (Or.inl ⟨by rfl, ?_⟩) ?_ ?_
          rotate_left
          · intro w'
            go_simp
            with_reducible rfl
          rotate_left
          · simp only [Act.put, List.setIfInBounds_toArray, List.set_cons_zero, List.set_cons_succ, i64_w, i32_w]
            rfl
          refine pure_ (i := 15) (N := some 87) (v := ?_) (a' := ?_) #[true, true, true, true, true, true, true, true, true, true, true, true, true, true, true, true, false, false, false, false, false, false, false, false, false, false, false, false, false, false, false, false] rfl rfl (any_of HT_.out (by kernel_rfl)) (fun _ _ _ h => h) (Or.inl ⟨by rfl, ?_⟩) ?_ ?_
          rotate_left
          · intro w'
            go_simp
            with_reducible rfl
          rotate_left
          · simp only [Act.put, List.setIfInBounds_toArray, List.set_cons_zero, List.set_cons_succ, i64_w, i32_w]
            rfl
          refine pure_ (i := 16) (N := some 88) (v := ?_) (a' := ?_) #[true, true, true, true, true, true, true, true, true, true, true, true, true, true, true, true, true, false, false, false, false, false, false, false, false, false, false, false, false, false, false, false] rfl rfl (any_of HT_.out (by kernel_rfl)) (fun _ _ _ h => h) (Or.inl ⟨by rfl, ?_⟩) ?_ ?_
          rotate_left
          · intro w'
            go_simp
            with_reducible rfl
          rotate_left
          · simp only [Act.put, List.setIfInBounds_toArray, List.set_cons_zero, List.set_cons_succ, i64_w, i32_w]
            rfl
          refine pure_ (i := 17) (N := some 89) (v := ?_) (a' := ?_) #[true, true, true, true, true, true, true, true, true, true, true, true, true, true, true, true, true, true, false, false, false, false, false, false, false, false, false, false, false, false, false, false] rfl rfl (any_of HT_.out (by kernel_rfl)) (fun _ _ _ h => h) (Or.inl ⟨by rfl, ?_⟩) ?_ ?_
          rotate_left
          · intro w'
            go_simp
            with_reducible rfl
          rotate_left
          · simp only [Act.put, List.setIfInBounds_toArray, List.set_cons_zero, List.set_cons_succ, i64_w, i32_w]
            rfl
          refine pure_ (i := 18) (N := some 90) (v := ?_) (a' := ?_) #[true, true, true, true, true, true, true, true, true, true, true, true, true, true, true, true, true, true, true, false, false, false, false, false, false, false, false, false, false, false, false, false] rfl rfl (any_of HT_.out (by kernel_rfl)) (fun _ _ _ h => h) (Or.inl ⟨by rfl, ?_⟩) ?_ ?_
          rotate_left
          · intro w'
            go_simp
            with_reducible rfl
          rotate_left
          · simp only [Act.put, List.setIfInBounds_toArray, List.set_cons_zero, List.set_cons_succ, i64_w, i32_w]
            rfl
          refine take_ (i := 19) (N := some 91) (v := ?_) (a' := ?_) #[true, true, true, true, true, true, true, true, true, true, true, true, true, true, true, true, true, true, true, true, false, false, false, false, false, false, false, false, false, false, false, false] rfl rfl (take_ofW HT_.out HW_.out (by kernel_rfl)) (fun _ _ _ h => h) (Or.inl ⟨by rfl, ?_⟩) hHeld ?_ ?_
          rotate_left
          · rintro w' ⟨s0, s1, s2, s3, s4⟩
            go_simp
            with_reducible rfl
          rotate_left
          · simp only [Act.put, List.setIfInBounds_toArray, List.set_cons_zero, List.set_cons_succ, i64_w, i32_w]
            rfl
          refine take_ (i := 20) (N := some 92) (v := ?_) (a' := ?_) #[true, true, true, true, true, true, true, true, true, true, true, true, true, true, true, true, true, true, true, true, true, false, false, false, false, false, false, false, false, false, false, false] rfl rfl (take_ofW HT_.out HW_.out (by kernel_rfl)) (fun _ _ _ h => h) (Or.inl ⟨by rfl, ?_⟩) hHeld ?_ ?_
          rotate_left
          · rintro w' ⟨s0, s1, s2, s3, s4⟩
            go_simp
            with_reducible rfl
          rotate_left
          · simp only [Act.put, List.setIfInBounds_toArray, List.set_cons_zero, List.set_cons_succ, i64_w, i32_w]
            rfl
          refine pure_ (i := 21) (N := some 93) (v := ?_) (a' := ?_) #[true, true, true, true, true, true, true, true, true, true, true, true, true, true, true, true, true, true, true, true, true, true, false, false, false, false, false, false, false, false, false, false] rfl rfl (any_of HT_.out (by kernel_rfl)) (fun _ _ _ h => h) (Or.inl ⟨by rfl, ?_⟩) ?_ ?_
          rotate_left
          · intro w'
            go_simp
            with_reducible rfl
          rotate_left
          · simp only [Act.put, List.setIfInBounds_toArray, List.set_cons_zero, List.set_cons_succ, i64_w, i32_w]
            rfl
          refine pure_ (i := 22) (N := some 94) (v := ?_) (a' := ?_) #[true, true, true, true, true, true, true, true, true, true, true, true, true, true, true, true, true, true, true, true, true, true, true, false, false, false, false, false, false, false, false, false] rfl rfl (any_of HT_.out (by kernel_rfl)) (fun _ _ _ h => h) (Or.inl ⟨by rfl, ?_⟩) ?_ ?_
          rotate_left
          · intro w'
            go_simp
            with_reducible rfl
          rotate_left
          · simp only [Act.put, List.setIfInBounds_toArray, List.set_cons_zero, List.set_cons_succ, i64_w, i32_w]
            rfl
          refine pure_ (i := 23) (N := some 95) (v := ?_) (a' := ?_) #[true, true, true, true, true, true, true, true, true, true, true, true, true, true, true, true, true, true, true, true, true, true, true, true, false, false, false, false, false, false, false, false] rfl rfl (any_of HT_.out (by kernel_rfl)) (fun _ _ _ h => h) (Or.inl ⟨by rfl, ?_⟩) ?_ ?_
          rotate_left
          · intro w'
            go_simp
            with_reducible rfl
          rotate_left
          · simp only [Act.put, List.setIfInBounds_toArray, List.set_cons_zero, List.set_cons_succ, i64_w, i32_w]
            rfl
          refine take_ (i := 24) (N := some 96) (v := ?_) (a' := ?_) #[true, true, true, true, true, true, true, true, true, true, true, true, true, true, true, true, true, true, true, true, true, true, true, true, true, false, false, false, false, false, false, false] rfl rfl (take_ofW HT_.out HW_.out (by kernel_rfl)) (fun _ _ _ h => h) (Or.inl ⟨by rfl, ?_⟩) hHeld ?_ ?_
          rotate_left
          · rintro w' ⟨s0, s1, s2, s3, s4⟩
            go_simp
            with_reducible rfl
          rotate_left
          · simp only [Act.put, List.setIfInBounds_toArray, List.set_cons_zero, List.set_cons_succ, i64_w, i32_w]
            rfl
          refine pure_ (i := 25) (N := some 97) (v := ?_) (a' := ?_) #[true, true, true, true, true, true, true, true, true, true, true, true, true, true, true, true, true, true, true, true, true, true, true, true, true, true, false, false, false, false, false, false] rfl rfl (any_of HT_.out (by kernel_rfl)) (fun _ _ _ h => h) (Or.inl ⟨by rfl, ?_⟩) ?_ ?_
          rotate_left
          · intro w'
            go_simp
            with_reducible rfl
          rotate_left
          · simp only [Act.put, List.setIfInBounds_toArray, List.set_cons_zero, List.set_cons_succ, i64_w, i32_w]
            rfl
          refine pure_ (i := 26) (N := some 98) (v := ?_) (a' := ?_) #[true, true, true, true, true, true, true, true, true, true, true, true, true, true, true, true, true, true, true, true, true, true, true, true, true, true, true, false, false, false, false, false] rfl rfl (any_of HT_.out (by kernel_rfl)) (fun _ _ _ h => h) (Or.inl ⟨by rfl, ?_⟩) ?_ ?_
          rotate_left
          · intro w'
            go_simp
            with_reducible rfl
          rotate_left
          · simp only [Act.put, List.setIfInBounds_toArray, List.set_cons_zero, List.set_cons_succ, i64_w, i32_w]
            rfl
          refine pure_ (i := 27) (N := some 99) (v := ?_) (a' := ?_) #[true, true, true, true, true, true, true, true, true, true, true, true, true, true, true, true, true, true, true, true, true, true, true, true, true, true, true, true, false, false, false, false] rfl rfl (any_of HT_.out (by kernel_rfl)) (fun _ _ _ h => h) (Or.inl ⟨by rfl, ?_⟩) ?_ ?_
          rotate_left
          · intro w'
            go_simp
            with_reducible rfl
          rotate_left
          · simp only [Act.put, List.setIfInBounds_toArray, List.set_cons_zero, List.set_cons_succ, i64_w, i32_w]
            rfl
          refine last_ (i := 28) (N := none) #[true, true, true, true, true, true, true, true, true, true, true, true, true, true, true, true, true, true, true, true, true, true, true, true, true, true, true, true, true, false, false, false] rfl rfl (one_of HT_.out (by kernel_rfl)) (by decide) (fun K hK => ?_)
          refine skip_ (w1 := ?_) (by rfl) rfl ?_ ?_
          rotate_left
          · go_simp
            rfl
          refine hK.out _ _ ?_
          clear hK K
          refine pure_ (i := 29) (N := some 100) (v := ?_) (a' := ?_) #[true, true, true, true, true, true, true, true, true, true, true, true, true, true, true, true, true, true, true, true, true, true, true, true, true, true, true, true, true, true, false, false] rfl rfl (any_of HT_.out (by kernel_rfl)) (fun _ _ _ h => h) (Or.inl ⟨by rfl, ?_⟩) ?_ ?_
          rotate_left
          · intro w'
            go_simp
            with_reducible rfl
          rotate_left
          · simp only [Act.put, List.setIfInBounds_toArray, List.set_cons_zero, List.set_cons_succ, i64_w, i32_w]
            rfl
          refine pure_ (i := 30) (N := some 101) (v := ?_) (a' := ?_) #[true, true, true, true, true, true, true, true, true, true, true, true, true, true, true, true, true, true, true, true, true, true, true, true, true, true, true, true, true, true, true, false] rfl rfl (any_of HT_.out (by kernel_rfl)) (fun _ _ _ h => h) (Or.inl ⟨by rfl, ?_⟩) ?_ ?_
          rotate_left
          · intro w'
            go_simp
            with_reducible rfl
          rotate_left
          · simp only [Act.put, List.setIfInBounds_toArray, List.set_cons_zero, List.set_cons_succ, i64_w, i32_w]
            rfl
          refine last_ (i := 31) (N := none) #[true, true, true, true, true, true, true, true, true, true, true, true, true, true, true, true, true, true, true, true, true, true, true, true, true, true, true, true, true, true, true, true] rfl rfl (one_of HT_.out (by kernel_rfl)) (by decide) (fun K hK => ?_)
          refine skip_ (w1 := ?_) (by rfl) rfl ?_ ?_
          rotate_left
          · go_simp
            rfl
          refine hK.out _ _ ?_
          clear hK K
          refine done_ (done_of HT_.out (by kernel_rfl)) ?_
          obtain ⟨lo, hlo⟩ : ∃ m, (if sa.f0 < sb.f0 then sb.f0 else sa.f0) = m := ⟨_, rfl⟩
          obtain ⟨hi, hhi⟩ : ∃ m, (if sb.f1 < sa.f1 then sb.f1 else sa.f1) = m := ⟨_, rfl⟩
          rw [hlo, hhi]
          have hmx : lo = max sa.f0 sb.f0 := by rw [← hlo]; split <;> omega
          have hmn : hi = min sa.f1 sb.f1 := by rw [← hhi]; split <;> omega
          have HMM : Aside0 (lo = max sa.f0 sb.f0 ∧ hi = min sa.f1 sb.f1) := ⟨hmx, hmn⟩
          have hset : (pre ++ a.drop d).set d ⟨lo, hi⟩ = (pre ++ [⟨lo, hi⟩]) ++ a.drop (d + 1) := by
            rw [drop_stepG z27 a d hlt, List.set_append_right _ _ (by have := HD.out; omega), show d - pre.length = 0 by have := HD.out; omega]; simp
          have hput := row_put HIz.out.1 d hlt lo hi
          rw [hset] at hput
          obtain ⟨cs, hcs⟩ := Kd.R_typed HIz.out.1 g rfl
          have hIy : MinI W w0.heap.size ab bb (.slice (some ⟨g, 0, none⟩) a.length cap) ((pre ++ [⟨lo, hi⟩]) ++ a.drop (d + 1)) zs ((wz.setCell ⟨g, d * 2, none⟩ (.int .i64 lo)).setCell ⟨g, d * 2 + 1, none⟩ (.int .i64 hi)) :=
            ⟨hput, fun y hy => ⟨Kd.R_far (p := ⟨g, d * 2 + 1, none⟩) (Kd.R_far (p := ⟨g, d * 2, none⟩) (HIz.out.2.1 y hy).1 (fun k hk e => (HIz.out.2.1 y hy).2.2 (by rw [← hk]; exact congrArg some e)) _) (fun k hk e => (HIz.out.2.1 y hy).2.2 (by rw [← hk]; exact congrArg some e)) _, (HIz.out.2.1 y hy).2⟩,
              HIz.out.2.2.1, (HIz.out.2.2.2.set (by have := HG.out; have := HBel.out.size; omega) HG.out.1 _).set (by have := HG.out; have := HBel.out.size; omega) HG.out.1 _⟩
          have hJy := HJ.out zs wz _ HJz.out ((Chg.set (j := d * 2) hcs HG.out.1 (.int .i64 lo)).trans (Chg.set (j := d * 2 + 1) (blk_put hcs (d * 2) (.int .i64 lo) rfl) HG.out.1 (.int .i64 hi)))
          obtain ⟨wy, hwy⟩ : ∃ wy, (wz.setCell ⟨g, d * 2, none⟩ (.int .i64 lo)).setCell ⟨g, d * 2 + 1, none⟩ (.int .i64 hi) = wy := ⟨_, rfl⟩
          rw [hwy] at hIy hJy ⊢
          have hLL : ((pre ++ [(⟨lo, hi⟩ : S27)]) ++ a.drop (d + 1)).getD d z27 = ⟨lo, hi⟩ := by
            simp only [List.getD_eq_getElem?_getD, List.append_assoc]
            rw [List.getElem?_append_right (by have := HD.out; omega), HD.out.2.1, Nat.sub_self]; rfl
          obtain ⟨c, hcl2, hM2, hcc, hfr⟩ := Kd.R_elem hIy.1 z27 (d : Int) (by omega) (by omega)
          obtain rfl := k27_openM hM2
          have x0 := hcc 0 _ rfl
          have x1 := hcc 1 _ rfl
          rw [Int.toNat_natCast, show k27.sz = 2 from rfl, hLL] at x0 x1
          rw [Nat.add_zero] at x0
          have HIy := Aside0.mk hIy
          have HJy := Aside0.mk hJy
          have bq : ∀ nq, Below wy.heap.size wy (wy.drewN nq) := fun nq => pw_below_drewN (Below.refl _ _) nq
          have HBq := Aside0.mk bq
          clear hlo hhi hmx hmn hset hput hcs hIy hJy hwy hLL hcl2 hM2 hcc hfr f0 f1 hHeld HIz HJz bq
          by_cases hle : lo ≤ hi
          · have hdec2 : decide (hi < lo) = false := decide_eq_false (by omega)
            gi_wp2
            refine wpIn_wide.2 ?_
            go_quiet (fail)
            gi_wp2
            go_roundw
            case measure => simp [intOf]; omega
            case rel =>
              refine ⟨d + 1, pre ++ [⟨lo, hi⟩], zs, by go_num, ⟨by omega, by have := HD.out; simp; omega, by have := HN.out; have := HI3.out; omega⟩, ⟨?_⟩, ⟨HIy.out.below (Nat.le_trans HBel.out.size HIy.out.size) (HBq.out nq)⟩, ⟨HJ.out _ _ _ HJy.out (Chg.of_below HIy.out.size (HBq.out nq))⟩⟩
              rw [← HCs.out, HI3.out, show cutAt 2 pre sa sb m M (a.drop (d + 1)) (b.drop (d + 1)) = cutR pre sa sb (a.drop (d + 1)) (b.drop (d + 1)) from rfl]
              unfold cutR
              rw [if_pos (by rw [← HMM.out.1, ← HMM.out.2]; exact hle), HMM.out.1, HMM.out.2]
          · have hdec2 : decide (hi < lo) = true := decide_eq_true (by omega)
            gi_wp2
            refine wpIn_wide.2 ?_
            go_quiet (fail)
            gi_wp2
            refine bodyPost_ret (results_none rfl _ _ _) rfl ?_
            have hIe := HIy.out.below (Nat.le_trans HBel.out.size HIy.out.size) (HBq.out nq)
            refine ⟨⟨_, rfl⟩, zs, ⟨?_, fun y hy => ⟨(hIe.2.1 y hy).1, (hIe.2.1 y hy).2.1⟩, hIe.2.2.1⟩, HJ.out _ _ _ HJy.out (Chg.of_below HIy.out.size (HBq.out nq))⟩
            rw [← HCs.out, HI3.out, show cutAt 2 pre sa sb m M (a.drop (d + 1)) (b.drop (d + 1)) = cutR pre sa sb (a.drop (d + 1)) (b.drop (d + 1)) from rfl]
            unfold cutR
            rw [if_neg (by rw [← HMM.out.1, ← HMM.out.2]; omega), List.append_nil]
    · have hda : d = a.length := by have := HD.out.1; omega
      gi_wp2
      go_end0
      refine ⟨⟨_, rfl⟩, ys, ⟨?_, fun y hy => ⟨(HI.out.2.1 y hy).1, (HI.out.2.1 y hy).2.1⟩, HI.out.2.2.1⟩, HJr.out⟩
      have hc := HC.out
      rw [List.drop_of_length_le (l := a) (by omega)] at hc
      rw [show cutT pre [] (b.drop d) = [] by unfold cutT; rfl, List.append_nil] at hc
      exact hc
end Go.Proofs.Yteodlmgmmpkpoaa.PS
end
section
namespace Go.Proofs.Yteodlmgmmpkpoaa.PS
open Go.RowKit Go.Shelf Go.Proofs.YteodlmgmmpkpoaaW.PrintWords Go.Proofs.YteodlmgmmpkpoaaW.PrintLast Go.Proofs.YteodlmgmmpkpoaaW.PrintMore
set_option linter.unusedVariables false
set_option linter.unusedSimpArgs false
attribute [local go_sem] Oper.semAt_some
theorem minus_in (n : Nat) (A : Option Addr) (m c : Nat) (B : Option Addr) (m' c' : Nat) (w : World) :
    CallsIn Fence.wide n Try.prog 172 #[.slice A m c, .slice B m' c'] w fun e w' =>
      e = .returned (.func (.func 186) #[] #[.pointer (some ⟨w.heap.size, 0, none⟩), .pointer (some ⟨w.heap.size + 1, 0, none⟩)]) ∧ w' = (w.alloc (.cells #[.slice A m c] 38)).alloc (.cells #[.slice B m' c'] 38) := by
  refine callsIn_of_wp Try.func172 rfl trivial ?_ rfl
  simp only [Try.ntmps172, List.size_toArray, List.length_cons, List.length_nil, Nat.reduceAdd, Nat.reduceSub, Array.replicate_succ, Array.replicate_zero, List.push_toArray, List.append_toArray, List.nil_append, List.cons_append]
  gi_wp2
  go_ret
  exact ⟨rfl, rfl⟩
theorem wpListIn_append_at {F : Fence} {n : Nat} {P : Program} {w : World} {ops : Array Oper} {rest : List Oper} {o : Oper} {a : Act} {Q : Exit → Act → World → Prop} (hg : o.guard = none) (s x : Operand) (t : TypeId)
    (hop : o.op = Op.call { callee := Callee.builtin Builtin.append, args := #[s, x], argTypes := #[t, t] }) (base : Nat) (e : TypeId) (i : TypeInfo) (z : Value) (size bytes : Nat)
    (h1 : P.underlying t = some (.slice e)) (h2 : P.info? e = some i) (h3 : i.zero = some z) (h4 : i.size = size) (h5 : i.bytes = bytes) (h6 : z.cells.size = size) (h7 : 0 < size)
    (v : Value) (k : Nat) (xs : List Value) (hs : a.eval s = v) (hown : w.ownsRow base e size v k xs) (ad : Addr) (m c : Nat) (news : List Value) (hx : a.eval x = .slice (some ad) m c) (hn : news.length = m * size)
    (hc : ∀ j u, news[j]? = some u → w.cell? (ad.add j) = some u) (h1c : ∀ u ∈ news, u.oneCell' = true) (b1 : k + m ≤ maxLen) (b2 : (k + m) * bytes ≤ 140737488355328) (b3 : base ≤ w.heap.size)
    (hK : ∀ v' w', w'.ownsRow base e size v' (k + m) (xs ++ news) → w.grownBy w' v.ownBlock → (v'.ownBlock = v.ownBlock ∨ v'.ownBlock = some w.heap.size) → wpListIn F n P ops Q rest (a.put o.dst v') w') :
    wpListIn F n P ops Q (o :: rest) a w := by
  refine wpListIn_plain hg fun K hK' => ?_
  obtain ⟨v', w', hrun, r1, r2, _, r3⟩ := run_append_own_at (P := P) w base t o.type e i z size bytes h1 h2 h3 h4 h5 h6 h7 v k xs hown ad m c news hn hc h1c b1 b2 b3
  refine ⟨by simp [Oper.about, hop, resolve, Target.leads, Sem.run_pure], ?_⟩
  rw [Oper.semAt_plain F _ _ (by rw [hop]; intro c hc'; cases hc')]
  simp [execOp, hop, resolve, invoke, builtin, hs, hx, hrun, Result.andThen]
  exact hK' _ _ (hK v' w' r1 r2 r3)
def RowI (w wl : World) (out ab bb : Nat) (vs : List Value) (W : World) : Prop :=
  (∃ v, Boxed W out 95 v ∧ W.ownsRow w.heap.size 38 1 v vs.length vs ∧ ∀ k, v.ownBlock = some k → k ≠ ab ∧ k ≠ bb) ∧ Below w.heap.size w W ∧
  (∀ (k : Nat) (o : Obj), wl.heap[k]? = some o → ((∃ c f, o = .cells c 27 f) ∨ o.isCells = false) → W.heap[k]? = some o) ∧ wl.heap.size ≤ W.heap.size
theorem rowI_own {w wl : World} {out ab bb : Nat} {vs : List Value} {A B : World} {row : Option Nat} (hw : w.heap.size ≤ wl.heap.size) (h : RowI w wl out ab bb vs A) (hg : A.grownBy B row) (hr : ∀ r, row = some r → wl.heap.size ≤ r ∧ ∃ o : Obj, A.heap[r]? = some o ∧ o.isCells = false) : RowI w wl out ab bb vs B := by
  obtain ⟨⟨v, hv, ho, hne⟩, hB, hold, hsz⟩ := h
  refine ⟨⟨v, blk_grown hv hg (fun e => ?_), ho.kept hg ?_, hne⟩, hB.grown hg (Nat.le_trans (Nat.le_refl _) hB.size) (fun k e => Nat.le_trans hw (hr k e).1), fun k o hk hko => blk_grown (hold k o hk hko) hg (fun e => ?_), Nat.le_trans hsz hg.size⟩
  · obtain ⟨_, o, h1, h2⟩ := hr out e.symm
    rw [hv] at h1; cases h1; cases h2
  · rcases ho.2 with ⟨rfl, _⟩ | ⟨g, cap, cur, rfl, _, hg2, _⟩
    · exact .inl rfl
    · refine .inr (fun e => ?_)
      obtain ⟨_, o, h1, h2⟩ := hr g e.symm
      rw [hg2] at h1; cases h1; cases h2
  · have := (hr k e.symm).1
    have := blk_lt hk
    omega
theorem rowI_chg {w wl : World} {out ab bb : Nat} {vs : List Value} {A C : World} (hw : w.heap.size ≤ wl.heap.size) (h : RowI w wl out ab bb vs A) (hc : Chg wl.heap.size A C) : RowI w wl out ab bb vs C := by
  obtain ⟨⟨v, hv, ho, hne⟩, hB, hold, hsz⟩ := h
  refine ⟨⟨v, hc.keep _ _ hv (by simp), ?_, hne⟩, hB.trans (hc.below.mono hw), fun k o hk hko => (hc.below.block k (blk_lt hk)).trans (hold k o hk hko), Nat.le_trans hsz hc.below.size⟩
  refine ⟨ho.1, ?_⟩
  rcases ho.2 with h | ⟨g, cap, cur, h1, h2, h3, h4⟩
  · exact .inl h
  · exact .inr ⟨g, cap, cur, h1, h2, hc.keep _ _ h3 (by simp), h4⟩
theorem row_step {w wl : World} {out ab bb : Nat} {vs : List Value} {W w1 : World} {v v' x : Value} (hw : w.heap.size ≤ wl.heap.size) (hW : wl.heap.size ≤ W.heap.size) (hout : w.heap.size ≤ out) (hab : out < ab ∧ ab < bb ∧ bb < wl.heap.size) (hB : Below w.heap.size w W)
    (hold : ∀ (k : Nat) (o : Obj), wl.heap[k]? = some o → ((∃ c f, o = .cells c 27 f) ∨ o.isCells = false) → W.heap[k]? = some o)
    (hv : Boxed W out 95 v) (ho : W.ownsRow w.heap.size 38 1 v vs.length vs) (hne : ∀ k, v.ownBlock = some k → k ≠ ab ∧ k ≠ bb)
    (h1 : w1.ownsRow w.heap.size 38 1 v' (vs.length + 1) (vs ++ [x])) (hg : (W.alloc (.cells #[x] 38)).grownBy w1 v.ownBlock) (hat : v'.ownBlock = v.ownBlock ∨ v'.ownBlock = some (W.alloc (.cells #[x] 38)).heap.size) :
    KeepsOthers W (w1.setCell ⟨out, 0, none⟩ v') ∧ KpM w.heap.size ab bb W (w1.setCell ⟨out, 0, none⟩ v') ∧ RowI w wl out ab bb (vs ++ [x]) (w1.setCell ⟨out, 0, none⟩ v') := by
  obtain ⟨b1, b2, b3, b4, b5⟩ := Boxed.appended (tmp := .cells #[x] 38) hv (by decide) ho hB.size hout h1 hg
  have hrow : ∀ k c f, W.heap[k]? = some (.cells c 27 f) → some k ≠ v.ownBlock := fun k c f hk e => by
    rcases ho.2 with ⟨rfl, _⟩ | ⟨g, cap, cur, rfl, _, hg2, _⟩
    · simp [Value.ownBlock] at e
    · obtain rfl : k = g := by simpa [Value.ownBlock] using e
      rw [hg2] at hk; cases hk
  have keep : ∀ k o, W.heap[k]? = some o → some k ≠ v.ownBlock → k ≠ out → (w1.setCell ⟨out, 0, none⟩ v').heap[k]? = some o := fun k o hk h1 h2 =>
    (Below.heap_setCell _ _ _ _ h2).trans (blk_grown (blk_alloc hk _) hg h1)
  refine ⟨b4, ⟨b5, fun k c t f hk hs => ?_⟩, ⟨⟨v', b2, by rw [List.length_append]; exact b3, fun k hk => ?_⟩, hB.trans b5, fun k o hk hko => ?_, Nat.le_trans hW b5.size⟩⟩
  · rcases hs with rfl | rfl | rfl
    · exact keep k _ hk (hrow k c f hk) (fun e => by subst e; rw [show W.heap[k]? = _ from hv] at hk; cases hk)
    · exact keep k _ hk (fun e => (hne k e.symm).1 rfl) (by omega)
    · exact keep k _ hk (fun e => (hne k e.symm).2 rfl) (by omega)
  · rcases hat with h | h
    · exact hne k (by rw [← h]; exact hk)
    · rw [h] at hk
      have : k = (W.alloc (.cells #[x] 38)).heap.size := by simpa using hk.symm
      rw [World.size_alloc] at this
      omega
  · have hk2 := hold k o hk hko
    rcases hko with ⟨c, f, rfl⟩ | hn
    · exact keep k _ hk2 (hrow k c f hk2) (fun e => by subst e; rw [show W.heap[k]? = _ from hv] at hk2; cases hk2)
    · exact b4.same k o hk2 hn
theorem seqY_own (B : Nat) (cs : List (List S27)) : OwnFrom B (SeqY B cs) := fun ys A C row hs hg hr =>
  ⟨hs.1, fun y hy => ⟨Kd.R_grown (hs.2.1 y hy).1 hg (fun k hk e => by
    obtain ⟨_, o, h1, h2⟩ := hr k e.symm
    obtain ⟨cells, hc⟩ := Kd.R_typed (hs.2.1 y hy).1 k hk.symm
    rw [hc] at h1; cases h1; cases h2), (hs.2.1 y hy).2⟩, hs.2.2⟩
end Go.Proofs.Yteodlmgmmpkpoaa.PS
end
section
namespace Go.Proofs.Yteodlmgmmpkpoaa.PS
open Go.RowKit Go.Shelf Go.Proofs.YteodlmgmmpkpoaaW.PrintWords Go.Proofs.YteodlmgmmpkpoaaW.PrintLast Go.Proofs.YteodlmgmmpkpoaaW.PrintMore
set_option linter.unusedVariables false
set_option linter.unusedSimpArgs false
attribute [local go_sem] Oper.semAt_some
theorem cutT_len : ∀ (a b pre : List S27), (cutT pre a b).length ≤ 2 * a.length
  | [], b, pre => by simp [cutT]
  | a :: av, [], pre => by simp [cutT]
  | a :: av, b :: bv, pre => by
    have h := cutT_len av bv (pre ++ [⟨max a.f0 b.f0, min a.f1 b.f1⟩])
    unfold cutT
    simp only [List.length_append, List.length_cons]
    repeat' split
    all_goals simp at *
    all_goals omega
structure RestI (w : World) (L : List (List S27)) (b : List S27) (k : Nat) (zs : List YE) (ds : List Nat) (W : World) : Prop where
  hk : k ≤ L.length
  hz : zs.length ≤ 6 * k
  hm : zs.map Prod.snd = restT (L.take k) b
  hv : ∃ v, Boxed W w.heap.size 95 v ∧ W.ownsRow w.heap.size 38 1 v zs.length (zs.map Prod.fst)
  hb : Below w.heap.size w W
  hr : ∀ y ∈ zs, Kd.R k27 27 W w.heap.size (fun k => some k = y.1.ownBlock) y.1 y.2 ∧ 0 < y.2.length
  hp : zs.Pairwise (fun y z => y.1.ownBlock ≠ z.1.ownBlock)
  hd : ∀ D ∈ ds, W.heap[D]? = some (.deferred (some [])) ∧ w.heap.size ≤ D
  hn : ds.Nodup
theorem own_some {w : World} {base : Nat} {ok : Nat → Prop} {v : Value} {xs : List S27} (h : Kd.R k27 27 w base ok v xs) (hp : 0 < xs.length) : ∃ g, v.ownBlock = some g ∧ base ≤ g ∧ g < w.heap.size := by
  obtain ⟨g, cap, rfl, h1, h2, _⟩ := Kd.R_form h hp
  exact ⟨g, by simp [Value.ownBlock], h1, h2⟩
theorem row_hold {A B : World} {base : Nat} {ok : Nat → Prop} {v : Value} {xs : List S27} (hr : Kd.R k27 27 A base ok v xs) (h : ∀ (k : Nat) (o : Obj), A.heap[k]? = some o → ((∃ c f, o = .cells c 27 f) ∨ o.isCells = false) → B.heap[k]? = some o) : Kd.R k27 27 B base ok v xs :=
  Kd.R_mono (Kd.R_move (Kd.R_bound hr) (fun k hk => by
    obtain ⟨_, _, _, q, hq, cells, hc⟩ := hk
    have : q = 27 := by rw [show k27.E = [] from rfl] at hq; simpa using hq
    subst this
    exact (h k _ hc (.inl ⟨_, _, rfl⟩)).trans hc.symm)) (fun _ hk => hk.1)
theorem restI_step {w wr wl W : World} {L : List (List S27)} {b a : List S27} {k ab bb D : Nat} {zs ys : List YE} {ds : List Nat} (h : RestI w L b k zs ds wr) (hk : k < L.length) (ha : L.getD k [] = a) (ha3 : a.length ≤ 3)
    (hl : Below wr.heap.size wr wl) (hI : RowI w wl w.heap.size ab bb (zs.map Prod.fst ++ ys.map Prod.fst) W) (hS : SeqY wl.heap.size (cutT [] a b) ys W) (hD : wl.heap.size ≤ D) (hDb : W.heap[D]? = some (.deferred (some []))) :
    RestI w L b (k + 1) (zs ++ ys) (D :: ds) W := by
  obtain ⟨⟨v, hv, ho, _⟩, hB, hold, _⟩ := hI
  have hw : w.heap.size ≤ wl.heap.size := Nat.le_trans h.hb.size hl.size
  have hly : ys.length ≤ 6 := by
    have h1 : ys.length = (cutT [] a b).length := by rw [← hS.1, List.length_map]
    have := cutT_len a b []
    omega
  have hold2 : ∀ (k : Nat) (o : Obj), wr.heap[k]? = some o → ((∃ c f, o = .cells c 27 f) ∨ o.isCells = false) → W.heap[k]? = some o := fun k o hk hko => hold k o (blk_below hk hl) hko
  have hlow : ∀ y ∈ zs, ∃ g, y.1.ownBlock = some g ∧ g < wr.heap.size := fun y hy => by
    obtain ⟨g, h1, _, h3⟩ := own_some (h.hr y hy).1 (h.hr y hy).2
    exact ⟨g, h1, h3⟩
  have hhigh : ∀ y ∈ ys, ∃ g, y.1.ownBlock = some g ∧ wl.heap.size ≤ g := fun y hy => by
    obtain ⟨g, h1, h2, _⟩ := own_some (hS.2.1 y hy).1 (hS.2.1 y hy).2
    exact ⟨g, h1, h2⟩
  have hsz := hl.size
  refine ⟨hk, by simp; have := h.hz; omega, ?_, ⟨v, hv, ?_⟩, hB, ?_, ?_, ?_, ?_⟩
  · rw [List.map_append, h.hm, hS.1, List.take_succ_eq_append_getElem hk]
    unfold restT
    rw [List.flatMap_append]
    have : L[k] = a := by rw [← ha]; simp [List.getD_eq_getElem?_getD, List.getElem?_eq_getElem hk]
    simp [this]
  · rw [List.length_append, List.map_append]
    simpa using ho
  · intro y hy
    rcases List.mem_append.1 hy with hy | hy
    · exact ⟨row_hold (h.hr y hy).1 hold2, (h.hr y hy).2⟩
    · exact ⟨Kd.R_lower (hS.2.1 y hy).1 hw, (hS.2.1 y hy).2⟩
  · refine List.pairwise_append.2 ⟨h.hp, hS.2.2, fun y hy z hz e => ?_⟩
    obtain ⟨g, h1, h2⟩ := hlow y hy
    obtain ⟨g', h3, h4⟩ := hhigh z hz
    rw [h1, h3] at e
    cases e
    omega
  · intro D' hD'
    rcases List.mem_cons.1 hD' with rfl | hD'
    · exact ⟨hDb, by omega⟩
    · exact ⟨hold2 D' _ (h.hd D' hD').1 (.inr rfl), (h.hd D' hD').2⟩
  · refine List.nodup_cons.2 ⟨fun hm => ?_, h.hn⟩
    have := blk_lt (h.hd D hm).1
    omega
def markOf (D : Nat) : Deferred := { target := .collected D, args := #[] }
theorem leaves_marks {n n0 : Nat} {fn : Func} {tmps : Array Value} {R : Ending → World → Prop} : ∀ (ds : List Nat) (W : World), (∀ D ∈ ds, W.heap[D]? = some (.deferred (some [])) ∧ n0 ≤ D) → ds.Nodup →
    (∀ W', Below n0 W W' → (∀ (k : Nat) (c : Array Value) (t : TypeId) (f : Nat × Nat), W.heap[k]? = some (Obj.cells c t f) → W'.heap[k]? = some (Obj.cells c t f)) → ∃ v, (results fn tmps).run Try.prog W' = .ok v W' ∧ R (.returned v) W') →
    LeavesInM Fence.wide n Try.prog fn tmps R (ds.map markOf) .returning W
  | [], W, _, _, h => h W (Below.refl _ _) (fun _ _ _ _ hk => hk)
  | D :: ds, W, hd, hn, h => by
    have hD := (hd D List.mem_cons_self).1
    have hne := List.nodup_cons.1 hn
    refine ⟨by simp, .inl ⟨D, _, rfl, run_takeDeferred hD, leaves_marks ds _ (fun D' hD' => ⟨(World.putObj_heap_other (fun e => hne.1 (by subst e; exact hD'))).trans (hd D' (List.mem_cons_of_mem _ hD')).1, (hd D' (List.mem_cons_of_mem _ hD')).2⟩) hne.2 ?_⟩⟩
    intro W' hb hk
    have hg := grownBy_putObj' W D (.deferred none)
    have hbl : Below n0 W (W.putObj D (.deferred none)) := (Below.refl n0 W).grown hg (Nat.le_of_lt (Nat.lt_of_le_of_lt (hd D List.mem_cons_self).2 (blk_lt hD))) (fun k e => by cases e; exact (hd D List.mem_cons_self).2)
    exact h W' (hbl.trans hb) (fun k c t f hc => hk k c t f (blk_grown hc hg (fun e => by cases e; rw [hD] at hc; cases hc)))
theorem restI_row {w W W' : World} {L : List (List S27)} {b : List S27} {k : Nat} {zs : List YE} {ds : List Nat} {v : Value} (h : RestI w L b k zs ds W) (ho : W.ownsRow w.heap.size 38 1 v zs.length (zs.map Prod.fst))
    (hk : ∀ (k : Nat) (c : Array Value) (t : TypeId) (f : Nat × Nat), W.heap[k]? = some (Obj.cells c t f) → W'.heap[k]? = some (Obj.cells c t f)) : Kd.S (Kd.slice 27 k27) 38 W' w.heap.size (fun _ => True) v (zs.map Prod.snd) := by
  have ho' : W'.ownsRow w.heap.size 38 1 v zs.length (zs.map Prod.fst) := by
    refine ⟨ho.1, ?_⟩
    rcases ho.2 with h | ⟨g, cap, cur, h1, h2, h3, h4⟩
    · exact .inl h
    · exact .inr ⟨g, cap, cur, h1, h2, hk _ _ _ _ h3, h4⟩
  have hrow : ∀ y ∈ zs, Kd.R k27 27 W' w.heap.size (fun k => some k = y.1.ownBlock) y.1 y.2 := fun y hy =>
    Kd.R_mono (Kd.R_move (Kd.R_bound (h.hr y hy).1) (fun k hk' => by
      obtain ⟨_, _, _, q, hq, cells, hc⟩ := hk'
      exact (hk k _ _ _ hc).trans hc.symm)) (fun _ hk => hk.1)
  have hpw := List.pairwise_iff_getElem.1 h.hp
  obtain ⟨f, hf⟩ := Kd.reps_tag (d := Kd.slice 27 k27) (w := W') (base := w.heap.size) (ok := fun k => True ∧ some k ≠ v.ownBlock) (xs := zs.map Prod.snd) (inner := zs.map Prod.fst)
    (fun j k => ∃ y, zs[j]? = some y ∧ some k = y.1.ownBlock)
    (by
      rintro i j k ⟨y, hy, ey⟩ ⟨z, hz, ez⟩
      obtain ⟨hi, rfl⟩ := List.getElem?_eq_some_iff.1 hy
      obtain ⟨hj, rfl⟩ := List.getElem?_eq_some_iff.1 hz
      rcases Nat.lt_trichotomy i j with hlt | rfl | hlt
      · exact absurd (ey.symm.trans ez) (hpw i j hi hj hlt)
      · rfl
      · exact absurd (ez.symm.trans ey) (hpw j i hj hi hlt))
    (by
      rintro j k ⟨y, hy, ey⟩
      refine ⟨trivial, fun e => ?_⟩
      obtain ⟨c1, h1⟩ := Kd.R_typed (hrow y (List.mem_of_getElem? hy)) k ey.symm
      obtain ⟨c2, h2⟩ := own_typed ho' k e.symm
      rw [h1] at h2
      cases h2)
    (by simp [Kd.slice])
    (by
      intro j x hj
      rw [List.getElem?_map] at hj
      obtain ⟨y, hy, rfl⟩ := Option.map_eq_some_iff.1 hj
      have hjl := (List.getElem?_eq_some_iff.1 hy).1
      refine ⟨y.1, ?_, Kd.R_mono (hrow y (List.mem_of_getElem? hy)) (fun k hk => ⟨y, hy, hk⟩)⟩
      show ((zs.map Prod.fst).drop (j * 1)).take 1 = [y.1]
      rw [Nat.mul_one]
      have hj2 : j < (zs.map Prod.fst).length := by simpa using hjl
      rw [List.drop_eq_getElem_cons hj2]
      obtain ⟨_, rfl⟩ := List.getElem?_eq_some_iff.1 hy
      simp)
  refine ⟨f, fun _ _ => trivial, zs.map Prod.fst, ?_, hf⟩
  rw [List.length_zipIdx, List.length_map]
  exact ho'
end Go.Proofs.Yteodlmgmmpkpoaa.PS
end
section
namespace Go.Proofs.Yteodlmgmmpkpoaa.PS
open Go.RowKit Go.Shelf Go.Proofs.YteodlmgmmpkpoaaW.PrintWords Go.Proofs.YteodlmgmmpkpoaaW.PrintLast Go.Proofs.YteodlmgmmpkpoaaW.PrintMore
set_option linter.unusedVariables false
set_option linter.unusedSimpArgs false
attribute [local go_sem] Oper.semAt_some
theorem info38' : ∃ i, Try.prog.info? 38 = some i ∧ i.zero = some (.slice none 0 0) ∧ i.size = 1 ∧ i.bytes = 24 := by
  have h := info38
  cases hi : Try.prog.info? 38 with
  | none => rw [hi] at h; cases h
  | some i =>
    rw [hi] at h
    simp only [Option.map_some, Option.some.injEq, Prod.mk.injEq] at h
    exact ⟨i, rfl, h⟩
theorem own_slice {w : World} {base : Nat} {e : TypeId} {size n : Nat} {v : Value} {xs : List Value} (h : w.ownsRow base e size v n xs) : ∃ A c, v = .slice A n c := by
  rcases h.2 with ⟨rfl, hx⟩ | ⟨g, cap, cur, rfl, _⟩
  · have hn : n = 0 := by
      first | exact hx.1 | (have := h.1; simp_all)
    exact ⟨none, 0, by rw [hn]⟩
  · exact ⟨_, _, rfl⟩
set_option maxRecDepth 100000 in
set_option maxHeartbeats 4000000 in
theorem rest_in (n : Nat) (hn : 6 ≤ n) (A : Option Addr) (c : Nat) (L : List (List S27)) (B : Option Addr) (cb : Nat) (b : List S27) (hbx : boxB b = true) (hbL : ∀ a ∈ L, boxB a = true ∧ a.length = b.length) (hL : L.length ≤ 100000000) (w : World)
    (hrL : Kd.C (Kd.slice 27 k27) w A L.length L) (hcL : L.length ≤ c) (hrb : Kd.C k27 w B b.length b) (hcb : b.length ≤ cb) :
    CallsIn Fence.wide n Try.prog 123 #[.slice A L.length c, .slice B b.length cb] w fun e w' => ∃ v, e = .returned v ∧ Kd.S (Kd.slice 27 k27) 38 w' w.heap.size (fun _ => True) v (restT L b) ∧ Below w.heap.size w w' := by
  have HRL := Aside0.mk hrL
  have HRB := Aside0.mk hrb
  have HBOX := Aside0.mk hbx
  have HBL := Aside0.mk hbL
  clear hrL hrb hbL
  refine callsIn_of_wp_marks Try.func123 rfl trivial ?_ rfl
  simp only [Try.ntmps123, List.size_toArray, List.length_cons, List.length_nil, Nat.reduceAdd, Nat.reduceSub, Array.replicate_succ, Array.replicate_zero, List.push_toArray, List.append_toArray, List.nil_append, List.cons_append]
  gi_wp2
  refine wpIn_loop (fun a W => ∃ (k : Nat) (zs : List YE) (ds : List Nat) (t6 t7 t11 t12 t13 t14 t15 t16 t17 t18 t19 t20 t21 t22 t23 : Value),
      a = { tmps := #[.slice A L.length c, .slice B b.length cb, undef, undef, .pointer (some ⟨w.heap.size, 0, none⟩), undef, t6, t7, .slice A L.length c, .int .i64 L.length, .int .i64 k, t11, t12, t13, t14, t15, t16, t17, t18, t19, t20, t21, t22, t23], defers := ds.map markOf } ∧
      Aside0 (RestI w L b k zs ds W)) (fun a _ => L.length - (intOf (a.tmps.getD 10 undef)).toNat) ?_ ?_
  · refine ⟨0, [], [], _, _, _, _, _, _, _, _, _, _, _, _, _, _, _, rfl, ⟨?_⟩⟩
    refine ⟨Nat.zero_le _, Nat.le_refl _, rfl, ⟨.slice none 0 0, blk_new w _, by simp, .inl ⟨rfl, rfl⟩⟩, below_alloc (Below.refl _ _) _, by simp, List.Pairwise.nil, by simp, List.nodup_nil⟩
  · rintro a W ⟨k, zs, ds, t6, t7, t11, t12, t13, t14, t15, t16, t17, t18, t19, t20, t21, t22, t23, rfl, HI⟩
    obtain ⟨v, hv, ho⟩ := HI.out.hv
    obtain ⟨vA, vC, rfl⟩ := own_slice ho
    have HV : Aside0 (Boxed W w.heap.size 95 (.slice vA zs.length vC)) := ⟨hv⟩
    have HO := Aside0.mk ho
    have vc := hv.cell
    have vf := blk_frozen hv 0
    clear hv ho
    by_cases hlt : k < L.length
    · obtain ⟨ad, A0, c0, rfl, hcell, hc0, hCa⟩ := at_L2 HRL.out (k : Int) (by omega) (by omega)
      replace hcell := (HI.out.hb.cell (World.block_lt_of_cell? w _ hcell)).trans hcell
      rw [Int.toNat_natCast] at hcell
      obtain ⟨a, ha⟩ : ∃ a, rd_L2 L (k : Int) = a := ⟨_, rfl⟩
      rw [ha] at hcell hc0 hCa
      have hmem : a ∈ L := by rw [← ha]; unfold rd_L2; rw [Int.toNat_natCast]; exact getD_mem L [] k hlt
      have hab := HBL.out a hmem
      have ha13 : 1 ≤ a.length ∧ a.length ≤ 3 := by
        have := hab.1
        unfold boxB at this
        simp only [Bool.and_eq_true, decide_eq_true_eq] at this
        exact this.1
      obtain ⟨aA, rfl, _⟩ := at_T27 hCa (0 : Int) (by omega) (by omega)
      obtain ⟨aB, rfl, _⟩ := at_T27 HRB.out (0 : Int) (by omega) (by omega)
      have HAB := Aside0.mk hab
      clear hab
      have hdec : decide ((k : Int) < (L.length : Int)) = true := decide_eq_true (by omega)
      gi_wp2
      refine ⟨trivial, fun _ => by omega, (minus_in (n - 1) (some aA) a.length c0 (some aB) b.length cb W).mono ?_⟩
      rintro e wl ⟨rfl, hwl⟩
      have bl : Below W.heap.size W wl := by rw [hwl]; exact below_alloc (below_alloc (Below.refl _ _) _) _
      have hsz : wl.heap.size = W.heap.size + 2 := by rw [hwl, World.size_alloc, World.size_alloc]
      have bA : wl.heap[W.heap.size]? = some (.cells #[.slice (some aA) a.length c0] 38 (0, 0)) := by rw [hwl]; exact blk_alloc (blk_new W _) _
      have bB : wl.heap[W.heap.size + 1]? = some (.cells #[.slice (some aB) b.length cb] 38 (0, 0)) := by rw [hwl]; have := blk_new (W.alloc (.cells #[.slice (some aA) a.length c0] 38)) (.cells #[.slice (some aB) b.length cb] 38); rwa [World.size_alloc] at this
      have hw : w.heap.size ≤ wl.heap.size := Nat.le_trans HI.out.hb.size bl.size
      clear hwl
      gi_wp2
      refine range_seen (w0 := wl) (by omega) (gf := 186) (lb := #[.pointer (some ⟨W.heap.size, 0, none⟩), .pointer (some ⟨W.heap.size + 1, 0, none⟩)]) rfl (enters_of Try.func186 (by kernel_rfl) rfl) (encs := encY) (Kp := KpM w.heap.size W.heap.size (W.heap.size + 1)) (G := fun x => ∃ A m c, x.1 = Value.slice A m c)
        (S := SeqY wl.heap.size (cutT [] a b)) (N := 6) ?seq (fun h k => h.trans k) ?kb (Below.refl _ _) (fun x => rfl) (fun pre V => RowI w wl w.heap.size W.heap.size (W.heap.size + 1) (zs.map Prod.fst ++ pre.map Prod.fst) V) ?own ?own27 (seqY_own _ _) ?h0
        (fun x => { tmps := #[.slice (some ad) L.length c, .slice (some aB) b.length cb, undef, undef, .pointer (some ⟨w.heap.size, 0, none⟩), undef, .slice (some aA) a.length c0, x.1, .slice (some ad) L.length c, .int .i64 L.length, .int .i64 k,
          .bool true, .pointer (some (ad.add k)), .slice (some aA) a.length c0, .slice (some aA) a.length c0, .slice (some aB) b.length cb, .func (.func 186) #[] #[.pointer (some ⟨W.heap.size, 0, none⟩), .pointer (some ⟨W.heap.size + 1, 0, none⟩)], x.1, t18, t19, t20, t21, t22, t23], defers := [] }) ?asg ?body ?done
      case seq =>
        intro l J W1 hb1 hJc hY hJ0
        refine (minus1_in (n - 1) (by omega) l W.heap.size (W.heap.size + 1) (by omega) aA c0 aB cb a b HAB.out.1 HBOX.out HAB.out.2 w hCa hc0 HRB.out hcb J hY W1 hJc ?_ (blk_below bA hb1) (blk_below bB hb1) hJ0).mono ?_
        · exact HI.out.hb.trans ((bl.trans (hb1.mono bl.size)).mono HI.out.hb.size)
        · rintro e W' ⟨hv, ys, hS, hJ'⟩
          exact ⟨hv, ys, ⟨hS.1, fun y hy => ⟨Kd.R_lower (hS.2.1 y hy).1 hb1.size, (hS.2.1 y hy).2⟩, hS.2.2⟩, hJ'⟩
      case kb =>
        intro V l o o' hl ho h1 h2
        exact ⟨belowK_b hw V l o o' hl ho h1 h2, fun k c t f hk _ => (World.putObj_heap_other (fun e => by subst e; rw [ho] at hk; cases hk; cases h1)).trans hk⟩
      case own => exact fun s X Y row hs hg hr => rowI_own hw hs hg hr
      case own27 => exact fun s X Y h hc => rowI_chg hw h hc
      case h0 =>
        refine ⟨⟨_, blk_below HV.out bl, ?_, fun k hk => ?_⟩, HI.out.hb.trans (bl.mono HI.out.hb.size), fun k o hk _ => hk, Nat.le_refl _⟩
        · simpa using own_move HO.out (fun k hk => bl.block k (own_lt HO.out k hk))
        · have := own_lt HO.out k hk
          omega
      case asg =>
        rintro l ⟨x1, x2⟩ V K ⟨Ax, mx, cx, rfl⟩ hK
        dsimp only [encY]
        gi_wp2
        exact hK
      case body =>
        rintro l pre ⟨x1, x2⟩ V hI hlen ⟨Ax, mx, cx, rfl⟩
        obtain ⟨⟨v, hv, ho, hne⟩, hB, hold, hVs⟩ := hI
        have hlen2 : (zs.map Prod.fst ++ pre.map Prod.fst).length = zs.length + pre.length := by simp
        have hl := ho
        obtain ⟨vA', vC', rfl⟩ := own_slice ho
        rw [hlen2] at hv ho hne
        have HV' : Aside0 (Boxed V w.heap.size 95 (.slice vA' (zs.length + pre.length) vC')) := ⟨hv⟩
        have HO' := Aside0.mk ho
        have vc' := hv.cell
        have vf' := blk_frozen hv 0
        have HVs : Aside0 (wl.heap.size ≤ V.heap.size) := ⟨hVs⟩
        have HOrd : Aside0 (w.heap.size < W.heap.size ∧ W.heap.size < W.heap.size + 1 ∧ W.heap.size + 1 < wl.heap.size) := ⟨by have := blk_lt HV.out; omega⟩
        have HVB := Aside0.mk hB
        have HHold := Aside0.mk hold
        have HNE := Aside0.mk hne
        clear hv ho hl hB hold hne hlen2
        obtain ⟨i38, q1, q2, q3, q4⟩ := info38'
        gi_wp2_with (gi_at_builtin; refine wpListIn_append_at rfl (.tmp 18) (.tmp 20) 95 rfl w.heap.size 38 i38 (.slice none 0 0) 1 24 Try.underlying95 q1 q2 q3 q4 rfl (by decide) _ (zs.length + pre.length) (zs.map Prod.fst ++ pre.map Prod.fst) rfl ?aO _ 1 1 [.slice Ax mx cx] rfl rfl ?aC ?aU ?aL ?aM ?aS ?_)
        case aO => exact (own_alloc HO'.out _)
        case aC =>
          intro j u hu
          obtain rfl : j = 0 := by
            have := (List.getElem?_eq_some_iff.1 hu).1
            simpa using this
          exact (blk_cell (blk_new V (.cells #[.slice Ax mx cx] 38)) 0).trans hu
        case aU => simp [Value.oneCell']
        case aL => have := HI.out.hz; have := hL; simp only [maxLen]; omega
        case aM => have := HI.out.hz; omega
        case aS => rw [World.size_alloc]; have := HVs.out; omega
        intro v' w1 h1 hg hat
        rw [← List.append_assoc] at h1
        have hstep := row_step (x := .slice Ax mx cx) hw HVs.out (Nat.le_refl _) HOrd.out HVB.out HHold.out HV'.out (by rw [show (zs.map Prod.fst ++ pre.map Prod.fst).length = zs.length + pre.length by simp]; exact HO'.out) HNE.out (by rw [show (zs.map Prod.fst ++ pre.map Prod.fst).length = zs.length + pre.length by simp]; exact h1) hg (by rw [World.size_alloc]; exact hat)
        have hb1 := (Boxed.appended (tmp := .cells #[.slice Ax mx cx] 38) HV'.out (by decide) HO'.out HVB.out.size (Nat.le_refl _) h1 hg).1
        have c1 := hb1.cell
        have f1 := blk_frozen hb1 0
        obtain ⟨A', c', rfl⟩ := own_slice h1
        gi_wp2
        refine ⟨hstep.1.from _, hstep.2.1, ?_⟩
        have := hstep.2.2
        simpa using this
      case done =>
        intro D ys V hD hS hI hDb
        dsimp only
        have HR := Aside0.mk (restI_step (D := D) HI.out hlt (by rw [← ha]; unfold rd_L2; rw [Int.toNat_natCast]) ha13.2 bl hI hS hD hDb)
        have hwr : IntKind.i64.wrap ((k : Int) + 1) = (k : Int) + 1 := wrI (by omega) (by omega)
        gi_wp2
        refine ⟨⟨k + 1, zs ++ ys, D :: ds, _, _, _, _, _, _, _, _, _, _, _, _, _, _, _, by rw [Int.natCast_succ]; rfl, HR⟩, ?_⟩
        show L.length - ((k : Int) + 1).toNat < L.length - (k : Int).toNat
        omega
    · have hdec : decide ((k : Int) < (L.length : Int)) = false := decide_eq_false (by omega)
      gi_wp2
      obtain rfl : k = L.length := by have := HI.out.hk; omega
      have hsame : ∀ (k : Nat) (o : Obj), W.heap[k]? = some o → (W.setCell ⟨w.heap.size, 0, none⟩ (.slice vA zs.length vC)).heap[k]? = some o := fun k o hk => by
        by_cases e : k = w.heap.size
        · subst e
          rw [show W.heap[w.heap.size]? = _ from HV.out] at hk
          cases hk
          exact HV.out.set _
        · exact (Below.heap_setCell _ _ _ _ e).trans hk
      refine leaves_marks (n0 := w.heap.size) ds _ (fun D hD => ⟨hsame _ _ (HI.out.hd D hD).1, (HI.out.hd D hD).2⟩) HI.out.hn fun W' hb hk => ?_
      have ho' := hk _ _ _ _ (hsame _ _ HV.out)
      have hc := (blk_cell ho' 0).trans rfl
      refine ⟨.slice vA zs.length vC, ?_, _, rfl, ?_, (HI.out.hb.setCell (Nat.le_refl _) _).trans hb⟩
      · simp [results, Try.results123, asAddr, go_sem, hc]
      · have := restI_row HI.out HO.out (fun k c t f h => hk k c t f (hsame _ _ h))
        rwa [HI.out.hm, List.take_length] at this
end Go.Proofs.Yteodlmgmmpkpoaa.PS
end
section
namespace Go.Proofs.Yteodlmgmmpkpoaa.PS
open Go.RowKit Go.Shelf Go.Proofs.YteodlmgmmpkpoaaW.PrintWords Go.Proofs.YteodlmgmmpkpoaaW.PrintLast Go.Proofs.YteodlmgmmpkpoaaW.PrintMore
set_option linter.unusedVariables false
set_option linter.unusedSimpArgs false
attribute [local go_sem] Oper.semAt_some
theorem rest.calls (A : Option Addr) (c : Nat) (L : List (List S27)) (B : Option Addr) (cb : Nat) (b : List S27) (hbx : boxB b = true) (hbL : ∀ a ∈ L, boxB a = true ∧ a.length = b.length) (hL : L.length ≤ 100000000) (w : World)
    (hrL : Kd.C (Kd.slice 27 k27) w A L.length L) (hcL : L.length ≤ c) (hrb : Kd.C k27 w B b.length b) (hcb : b.length ≤ cb) :
    Calls Try.prog 123 #[.slice A L.length c, .slice B b.length cb] w fun e w' => ∃ v, e = .returned v ∧ Kd.S (Kd.slice 27 k27) 38 w' w.heap.size (fun _ => True) v (restT L b) ∧ Below w.heap.size w w' :=
  (callsIn_wide (n := 6)).1 (rest_in 6 (Nat.le_refl _) A c L B cb b hbx hbL hL w hrL hcL hrb hcb)
theorem idx0 (A0 : Option Addr) (n0 c0 : Nat) (A1 : Option Addr) (n1 c1 : Nat) (w : World) : (Instr.index 168 (.agg #[.slice A0 n0 c0, .slice A1 n1 c1]) (.int .i64 0)).run Try.prog w = .ok (.slice A0 n0 c0) w := by kernel_rfl
theorem idx1 (A0 : Option Addr) (n0 c0 : Nat) (A1 : Option Addr) (n1 c1 : Nat) (w : World) : (Instr.index 168 (.agg #[.slice A0 n0 c0, .slice A1 n1 c1]) (.int .i64 1)).run Try.prog w = .ok (.slice A1 n1 c1) w := by kernel_rfl
attribute [local go_sem] idx0 idx1
theorem slice_lit {W : World} {A : Option Addr} {c : Nat} {l : List S27} (h : Kd.C k27 W A l.length l) (hc : l.length ≤ c) : Kd.C (Kd.slice 27 k27) (W.alloc (.cells #[.slice A l.length c] 38)) (some ⟨W.heap.size, 0, none⟩) 1 [l] :=
  ⟨rfl, by omega, fun _ => ⟨_, rfl, fun j p hj => by
    obtain rfl : j = 0 := by
      have := (List.getElem?_eq_some_iff.1 hj).1
      simpa using this
    obtain rfl : l = p := by simpa using hj
    exact ⟨[.slice A l.length c], rfl, ⟨A, c, rfl, hc, Kd.C_alloc h _⟩, fun i u hu => by
      obtain rfl : i = 0 := by
        have := (List.getElem?_eq_some_iff.1 hu).1
        simpa using this
      exact (blk_cell (blk_new W (.cells #[.slice A l.length c] 38)) 0).trans hu⟩⟩⟩
theorem S_low {w : World} {b b' e : Nat} {ok : Nat → Prop} {v : Value} {xs : List (List S27)} (h : Kd.S (Kd.slice 27 k27) e w b ok v xs) (hb : b' ≤ b) : Kd.S (Kd.slice 27 k27) e w b' ok v xs := by
  obtain ⟨f, hf⟩ := h
  exact ⟨f, Kd.R_lower hf hb⟩
theorem restT_one (a b : List S27) : restT [a] b = cutT [] a b := by simp [restT]
set_option maxRecDepth 100000 in
set_option maxHeartbeats 4000000 in
theorem spans_Minus.calls (A0 : Option Addr) (c0 : Nat) (l0 : List (S27)) (A1 : Option Addr) (c1 : Nat) (l1 : List (S27)) (r1 : List (List (S27))) (r2 : Int) (w : World) (hr0 : Kd.C k27 w A0 l0.length l0) (hc0 : l0.length ≤ c0) (hr1 : Kd.C k27 w A1 l1.length l1) (hc1 : l1.length ≤ c1) (h : spans_Minus.f l0 l1 = some (r1, r2)) :
    Calls Try.prog 60 #[.slice A0 l0.length c0, .slice A1 l1.length c1] w fun e w' => ∃ v0_ : Value, e = .returned (.tuple #[v0_, .int .i64 r2]) ∧ Kd.S (Kd.slice 27 k27) 38 w' w.heap.size (fun _ => True) v0_ r1 ∧ Below w.heap.size w w' := by
  have HR0 := Aside0.mk hr0
  have HR1 := Aside0.mk hr1
  have H := Aside0.mk (Option.some.inj h)
  clear hr0 hr1 h
  refine (callsIn_wide (n := 7)).1 (callsIn_of_wp Try.func60 rfl trivial ?_ rfl)
  simp only [Try.ntmps60, List.size_toArray, List.length_cons, List.length_nil, Nat.reduceAdd, Nat.reduceSub, Array.replicate_succ, Array.replicate_zero, List.push_toArray, List.append_toArray, List.nil_append, List.cons_append]
  gi_wp2
  gi_loopw [12] (fun v12 wr => ∃ i : Nat, v12 = .int .i64 i ∧ Aside0 (i ≤ 2 ∧ (1 ≤ i → boxB l0 = true) ∧ (2 ≤ i → boxB l1 = true) ∧ Below w.heap.size w wr)) (fun v12 _ => 2 - (intOf v12).toNat)
  case atStart => exact ⟨0, rfl, ⟨by omega, by omega, by omega, Below.refl _ _⟩⟩
  case round =>
    obtain ⟨i, rfl, HI⟩ := hrel
    by_cases hi : i < 2
    · rcases (show i = 0 ∨ i = 1 by omega) with rfl | rfl
      · rw [show ((0 : Nat) : Int) = 0 from rfl]
        have ck := check_total l0
        rcases Bool.eq_false_or_eq_true (boxB l0) with hb | hb
        · rw [hb, if_pos rfl] at ck
          have HBx := Aside0.mk hb
          clear hb
          gi_wp2_with (refine ⟨trivial, ?_⟩; gi_at_call 26; refine (callsIn_wide.2 (spans_Check.calls A0 c0 l0 _ _ (Kd.C_below HR0.out HI.out.2.2.2) hc0 ck)).mono ?_; rintro e w1 ⟨rfl, hb1⟩)
          exact ⟨⟨1, rfl, ⟨by omega, fun _ => HBx.out, by omega, HI.out.2.2.2.trans (hb1.mono HI.out.2.2.2.size)⟩⟩, by decide⟩
        · rw [hb, if_neg (by simp)] at ck
          have HBx := Aside0.mk hb
          clear hb
          gi_wp2_with (refine ⟨trivial, ?_⟩; gi_at_call 26; refine (callsIn_wide.2 (spans_Check.calls A0 c0 l0 _ _ (Kd.C_below HR0.out HI.out.2.2.2) hc0 ck)).mono ?_; rintro e w1 ⟨rfl, hb1⟩)
          have HH := H.out
          rw [HBx.out, Bool.false_and, if_neg (by simp)] at HH
          cases HH
          refine bodyPost_ret (results_list (rs := [.tmp 4, .tmp 5]) rfl (by simp) (.tmp (.tmp .nil))) rfl ?_
          exact ⟨_, rfl, Kd.S_nil _ _ _ _ _, HI.out.2.2.2.trans (hb1.mono HI.out.2.2.2.size)⟩
      · rw [show ((1 : Nat) : Int) = 1 from rfl]
        have ck := check_total l1
        have hbx0 := Aside0.mk (HI.out.2.1 (by omega))
        rcases Bool.eq_false_or_eq_true (boxB l1) with hb | hb
        · rw [hb, if_pos rfl] at ck
          have HBx := Aside0.mk hb
          clear hb
          gi_wp2_with (refine ⟨trivial, ?_⟩; gi_at_call 26; refine (callsIn_wide.2 (spans_Check.calls A1 c1 l1 _ _ (Kd.C_below HR1.out HI.out.2.2.2) hc1 ck)).mono ?_; rintro e w1 ⟨rfl, hb1⟩)
          exact ⟨⟨2, rfl, ⟨by omega, fun _ => hbx0.out, fun _ => HBx.out, HI.out.2.2.2.trans (hb1.mono HI.out.2.2.2.size)⟩⟩, by decide⟩
        · rw [hb, if_neg (by simp)] at ck
          have HBx := Aside0.mk hb
          clear hb
          gi_wp2_with (refine ⟨trivial, ?_⟩; gi_at_call 26; refine (callsIn_wide.2 (spans_Check.calls A1 c1 l1 _ _ (Kd.C_below HR1.out HI.out.2.2.2) hc1 ck)).mono ?_; rintro e w1 ⟨rfl, hb1⟩)
          have HH := H.out
          rw [HBx.out, Bool.and_false, if_neg (by simp)] at HH
          cases HH
          refine bodyPost_ret (results_list (rs := [.tmp 4, .tmp 5]) rfl (by simp) (.tmp (.tmp .nil))) rfl ?_
          exact ⟨_, rfl, Kd.S_nil _ _ _ _ _, HI.out.2.2.2.trans (hb1.mono HI.out.2.2.2.size)⟩
    · obtain rfl : i = 2 := by have := HI.out.1; omega
      have hB := Aside0.mk HI.out.2.2.2
      have hbx0 := Aside0.mk (HI.out.2.1 (by omega))
      have hbx1 := Aside0.mk (HI.out.2.2.1 (by omega))
      have HH := H.out
      rw [hbx0.out, hbx1.out, Bool.true_and, if_pos rfl] at HH
      by_cases hl : l0.length = l1.length
      · have hne : ((l0.length : Int) != (l1.length : Int)) = false := by simp [hl]
        rw [if_pos hl] at HH
        cases HH
        have HNE := Aside0.mk hl
        clear hl
        gi_wp2
        have b1 : Below wr.heap.size wr (wr.alloc (.cells #[.slice A0 l0.length c0] 38)) := below_alloc (Below.refl _ _) _
        have hC := slice_lit (W := wr) (Kd.C_below HR0.out hB.out) hc0
        have hC1 := Kd.C_below HR1.out (hB.out.trans (b1.mono hB.out.size))
        refine ⟨trivial, (callsIn_wide.2 (rest.calls (some ⟨wr.heap.size, 0, none⟩) 1 [l0] A1 c1 l1 hbx1.out (fun a ha => by obtain rfl : a = l0 := (by simpa using ha); exact ⟨hbx0.out, HNE.out⟩) (by simp) _ hC (Nat.le_refl _) hC1 hc1)).mono ?_⟩
        rintro e w2 ⟨v, rfl, hS, hb2⟩
        gi_wp2
        refine bodyPost_ret (results_list (rs := [.tmp 4, .tmp 5]) rfl (by simp) (.tmp (.tmp .nil))) rfl ?_
        have hS' := S_low hS (Nat.le_trans hB.out.size b1.size)
        rw [restT_one] at hS'
        exact ⟨_, rfl, hS', (hB.out.trans (b1.mono hB.out.size)).trans (hb2.mono (Nat.le_trans hB.out.size b1.size))⟩
      · have hne : ((l0.length : Int) != (l1.length : Int)) = true := by simp; omega
        rw [if_neg hl] at HH
        cases HH
        gi_wp2
        refine bodyPost_ret (results_list (rs := [.tmp 4, .tmp 5]) rfl (by simp) (.tmp (.tmp .nil))) rfl ?_
        exact ⟨_, rfl, Kd.S_nil _ _ _ _ _, hB.out⟩
end Go.Proofs.Yteodlmgmmpkpoaa.PS
end
section
namespace Go.Proofs.Yteodlmgmmpkpoaa.PS
open Go.RowKit Go.Proofs.YteodlmgmmpkpoaaW.PrintWords Go.Proofs.YteodlmgmmpkpoaaW.PrintLast Go.Proofs.YteodlmgmmpkpoaaW.PrintMore
set_option linter.unusedVariables false
set_option linter.unusedSimpArgs false
theorem cutT_dim : ∀ (a b pre x : List S27), x ∈ cutT pre a b → x.length = pre.length + a.length
  | [], b, pre, x, h => by simp [cutT] at h
  | a :: av, [], pre, x, h => by simp [cutT] at h
  | a :: av, b :: bv, pre, x, h => by
    simp only [cutT, List.mem_append] at h
    rcases h with h | h | h
    · split at h
      · simp only [List.mem_singleton] at h; rw [h]; simp
      · simp at h
    · split at h
      · simp only [List.mem_singleton] at h; rw [h]; simp
      · simp at h
    · split at h
      · have := cutT_dim av bv _ x h
        rw [this]; simp; omega
      · simp at h
theorem cutT_max : ∀ (a b pre : List S27), (cutT pre a b).length ≤ 2 * a.length
  | [], b, pre => by simp [cutT]
  | a :: av, [], pre => by simp [cutT]
  | a :: av, b :: bv, pre => by
    have h := cutT_max av bv (pre ++ [⟨max a.f0 b.f0, min a.f1 b.f1⟩])
    unfold cutT
    simp only [List.length_append, List.length_cons]
    repeat' split
    all_goals simp at *
    all_goals omega
end Go.Proofs.Yteodlmgmmpkpoaa.PS
end
section
namespace Go.Proofs.Yteodlmgmmpkpoaa.PS
open Go.RowKit Go.Proofs.YteodlmgmmpkpoaaW.PrintWords Go.Proofs.YteodlmgmmpkpoaaW.PrintLast Go.Proofs.YteodlmgmmpkpoaaW.PrintMore
set_option linter.unusedVariables false
set_option linter.unusedSimpArgs false
def okA (l : List S27) : Bool := l.all fun s => okS s.f0 s.f1
theorem okS_iff (lo hi : Int) : okS lo hi = true ↔ -1000000 ≤ lo ∧ lo ≤ hi ∧ hi ≤ 1000000 := by
  unfold okS
  simp only [Bool.and_eq_true, decide_eq_true_eq]
  omega
theorem okA_cons (s : S27) (l : List S27) : okA (s :: l) = true ↔ (-1000000 ≤ s.f0 ∧ s.f0 ≤ s.f1 ∧ s.f1 ≤ 1000000) ∧ okA l = true := by
  unfold okA
  rw [List.all_cons, Bool.and_eq_true, okS_iff]
theorem okA_app (k l : List S27) : okA (k ++ l) = true ↔ okA k = true ∧ okA l = true := by
  unfold okA
  rw [List.all_append, Bool.and_eq_true]
theorem boxB_ok {l : List S27} (h : boxB l = true) : okA l = true := by
  unfold boxB at h
  rw [Bool.and_eq_true] at h
  exact h.2
theorem boxB_mk {l : List S27} (h : okA l = true) (h1 : 1 ≤ l.length) (h3 : l.length ≤ 3) : boxB l = true := by
  unfold boxB
  rw [Bool.and_eq_true, Bool.and_eq_true]
  exact ⟨⟨decide_eq_true h1, decide_eq_true h3⟩, h⟩
theorem cutT_ok : ∀ (a b pre x : List S27), okA pre = true → okA a = true → okA b = true → x ∈ cutT pre a b → okA x = true
  | [], b, pre, x, _, _, _, h => by simp [cutT] at h
  | a :: av, [], pre, x, _, _, _, h => by simp [cutT] at h
  | a :: av, b :: bv, pre, x, hp, ha, hb, h => by
    obtain ⟨a1, a2⟩ := (okA_cons _ _).1 ha
    obtain ⟨b1, b2⟩ := (okA_cons _ _).1 hb
    simp only [cutT, List.mem_append] at h
    rcases h with h | h | h
    · split at h
      · simp only [List.mem_singleton] at h
        rw [h, okA_app]
        exact ⟨hp, (okA_cons _ _).2 ⟨⟨by dsimp only; omega, by assumption, by dsimp only; omega⟩, a2⟩⟩
      · simp at h
    · split at h
      · simp only [List.mem_singleton] at h
        rw [h, okA_app]
        exact ⟨hp, (okA_cons _ _).2 ⟨⟨by dsimp only; omega, by assumption, by dsimp only; omega⟩, a2⟩⟩
      · simp at h
    · split at h
      · refine cutT_ok av bv _ x ((okA_app _ _).2 ⟨hp, (okA_cons _ _).2 ⟨⟨by simp only; omega, by assumption, by simp only; omega⟩, rfl⟩⟩) a2 b2 h
      · simp at h
def inT : List Int → List S27 → Bool
  | x :: p, s :: b => (decide (s.f0 ≤ x) && decide (x ≤ s.f1)) && inT p b
  | _, _ => true
theorem inT_app : ∀ (pp : List Int) (pre : List S27) (p : List Int) (b : List S27), pp.length = pre.length → inT (pp ++ p) (pre ++ b) = (inT pp pre && inT p b)
  | [], [], p, b, _ => by simp [inT]
  | x :: pp, s :: pre, p, b, h => by
    simp only [List.cons_append, inT, inT_app pp pre p b (by simpa using h), Bool.and_assoc]
  | [], s :: pre, p, b, h => by simp at h
  | x :: pp, [], p, b, h => by simp at h
def cnt (p : List Int) (l : List (List S27)) : Nat := (l.filter (inT p)).length
theorem cnt_app (p : List Int) (k l : List (List S27)) : cnt p (k ++ l) = cnt p k + cnt p l := by unfold cnt; rw [List.filter_append, List.length_append]
theorem cnt_one (p : List Int) (x : List S27) : cnt p [x] = if inT p x then 1 else 0 := by
  unfold cnt
  cases h : inT p x <;> simp [h]
theorem cnt_nil (p : List Int) : cnt p [] = 0 := rfl
theorem cut_cnt : ∀ (a b : List S27) (p : List Int) (pre : List S27) (pp : List Int), a.length = b.length → p.length = a.length → pp.length = pre.length → okA a = true → okA b = true →
    cnt (pp ++ p) (cutT pre a b) = if inT pp pre && (inT p a && !inT p b) then 1 else 0
  | [], [], [], pre, pp, _, _, _, _, _ => by simp [cutT, cnt, inT]
  | a :: av, b :: bv, x :: p, pre, pp, hl, hp, hpp, ha, hb => by
    obtain ⟨a1, a2⟩ := (okA_cons _ _).1 ha
    obtain ⟨b1, b2⟩ := (okA_cons _ _).1 hb
    have ih := cut_cnt av bv p (pre ++ [⟨max a.f0 b.f0, min a.f1 b.f1⟩]) (pp ++ [x]) (by simpa using hl) (by simpa using hp) (by simp [hpp]) a2 b2
    rw [List.append_assoc, List.singleton_append, inT_app _ _ _ _ hpp] at ih
    simp only [cutT, cnt_app]
    have e1 : ∀ s : S27, inT (pp ++ x :: p) (pre ++ s :: av) = (inT pp pre && ((decide (s.f0 ≤ x) && decide (x ≤ s.f1)) && inT p av)) := fun s => by rw [inT_app _ _ _ _ hpp]; rfl
    have eP : cnt (pp ++ x :: p) (if a.f0 ≤ min a.f1 (b.f0 - 1) then [pre ++ ⟨a.f0, min a.f1 (b.f0 - 1)⟩ :: av] else []) = if inT pp pre && ((decide (a.f0 ≤ x) && decide (x ≤ min a.f1 (b.f0 - 1))) && inT p av) then 1 else 0 := by
      by_cases h : a.f0 ≤ min a.f1 (b.f0 - 1)
      · rw [if_pos h, cnt_one, e1]
      · rw [if_neg h, cnt_nil, show (decide (a.f0 ≤ x) && decide (x ≤ min a.f1 (b.f0 - 1))) = false by rw [Bool.and_eq_false_iff, decide_eq_false_iff_not, decide_eq_false_iff_not]; omega]
        simp
    have eQ : cnt (pp ++ x :: p) (if max a.f0 (b.f1 + 1) ≤ a.f1 then [pre ++ ⟨max a.f0 (b.f1 + 1), a.f1⟩ :: av] else []) = if inT pp pre && ((decide (max a.f0 (b.f1 + 1) ≤ x) && decide (x ≤ a.f1)) && inT p av) then 1 else 0 := by
      by_cases h : max a.f0 (b.f1 + 1) ≤ a.f1
      · rw [if_pos h, cnt_one, e1]
      · rw [if_neg h, cnt_nil, show (decide (max a.f0 (b.f1 + 1) ≤ x) && decide (x ≤ a.f1)) = false by rw [Bool.and_eq_false_iff, decide_eq_false_iff_not, decide_eq_false_iff_not]; omega]
        simp
    have eR : cnt (pp ++ x :: p) (if max a.f0 b.f0 ≤ min a.f1 b.f1 then cutT (pre ++ [⟨max a.f0 b.f0, min a.f1 b.f1⟩]) av bv else []) = if (inT pp pre && (decide (max a.f0 b.f0 ≤ x) && decide (x ≤ min a.f1 b.f1))) && (inT p av && !inT p bv) then 1 else 0 := by
      by_cases h : max a.f0 b.f0 ≤ min a.f1 b.f1
      · rw [if_pos h, ih]
        simp [inT]
      · rw [if_neg h, cnt_nil, show (decide (max a.f0 b.f0 ≤ x) && decide (x ≤ min a.f1 b.f1)) = false by rw [Bool.and_eq_false_iff, decide_eq_false_iff_not, decide_eq_false_iff_not]; omega]
        simp
    rw [eP, eQ, eR]
    simp only [inT]
    rcases Bool.eq_false_or_eq_true (inT pp pre) with hw | hw
    · rcases Bool.eq_false_or_eq_true (inT p av) with hu | hu
      · rcases Bool.eq_false_or_eq_true (inT p bv) with hv | hv
        · simp only [hw, hu, hv, Bool.true_and, Bool.and_true, Bool.not_true, Bool.not_false, Bool.and_false, Bool.false_and, Bool.and_eq_true, decide_eq_true_eq, Bool.not_and, Bool.or_eq_true, Bool.not_eq_true', decide_eq_false_iff_not, Bool.false_eq_true, if_false, Nat.add_zero]
          repeat' split
          all_goals omega
        · simp only [hw, hu, hv, Bool.true_and, Bool.and_true, Bool.not_true, Bool.not_false, Bool.and_false, Bool.false_and, Bool.and_eq_true, decide_eq_true_eq, Bool.not_and, Bool.or_eq_true, Bool.not_eq_true', decide_eq_false_iff_not, Bool.false_eq_true, if_false, Nat.add_zero]
          repeat' split
          all_goals omega
      · simp [hu]
    · simp [hw]
end Go.Proofs.Yteodlmgmmpkpoaa.PS
end
