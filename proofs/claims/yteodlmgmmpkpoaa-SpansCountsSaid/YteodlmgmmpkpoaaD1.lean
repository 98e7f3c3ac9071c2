-- Printed by a program of this session out of the translation (hybrid print) and out of hand proofs. Not trusted: Lean checks it.
import Derived.Below
import Derived.Deep.Draws
import Derived.Deep.AppendLies
import Derived.Maps.AppendAt
import Derived.OwnWalk
import Derived.Laws.BytesArg
import Derived.Laws.MakeOwn
import Derived.Laws.OwnMore
import Derived.Deep.OwnRows
import Derived.Tactics
import Derived.Lib.ConvBytes
import Derived.Laws.Slices
import Derived.WalkKit
import Derived.KernelRfl
import Derived.RowKit3
import Derived.Deep.LoopGhost
import Derived.Deep.QuietTactic
import Derived.BigQuiet
import Derived.WideLaws
import Derived.Deep.DeepCutAuto
import Derived.Deep.CutBlock
import Derived.Deep.RegionHeld3
import Derived.Laws.Rows
import Derived.Lib.AppendStr
import Derived.ArgAppend
import Derived.Laws.IdiomCopy
import Derived.RowKit
import Derived.Test.YteodlmgmmpkpoaaD0
section
namespace Go.Proofs.Yteodlmgmmpkpoaa.PS
set_option linter.unusedVariables false
def leftT (a : List S27) (l : List (List S27)) : List (List S27) := l.foldl restT [a]
def sameB (n : Nat) (l : List (List S27)) : Bool := l.all fun b => b.length == n
def listE (l : List (List S27)) : Int := if l.all boxB then (if sameB (l.headD []).length l then 0 else 1) else 10
def sizeT (b : List S27) : Int := b.foldl (fun n s => n * (s.f1 - s.f0 + 1)) 1
def satT (l : List Int) (a : Int) : Int := l.foldl (fun n x => min (n + x) 1000000000000000000) a
def countT : List (List S27) → List (List S27) → Int → Int
  | _, [], n => n
  | pre, a :: l, n => countT (pre ++ [a]) l (satT ((leftT a pre).map sizeT) n)
end Go.Proofs.Yteodlmgmmpkpoaa.PS
end
section
namespace Go.Proofs.Yteodlmgmmpkpoaa.PS
open Go.RowKit Go.Proofs.YteodlmgmmpkpoaaW.PrintWords Go.Proofs.YteodlmgmmpkpoaaW.PrintLast Go.Proofs.YteodlmgmmpkpoaaW.PrintMore
attribute [local go_sem] max2_int min2_int max_two min_two max_three min_three max_four min_four   -- for this text's walks alone
set_option linter.unusedVariables false
set_option linter.unusedSimpArgs false
set_option maxHeartbeats 8000000 in
set_option maxRecDepth 100000 in
theorem swashplateref01_From.calls (a0 : Int) (a1 : Int) (a2 : Int) (r : Bool) (w : World) (h : swashplateref01_From.f a0 a1 a2 = some r) :
  Calls Try.prog 37 #[.int .i64 a0, .int .i64 a1, .int .i64 a2] w fun e w' => e = .returned (.bool r) ∧ Drawn0 w w' := by
 have H : (if a0 ≥ a1 then (some (decide (a0 ≤ a2))) else (some false)) = some r := h
 clear h
 by_cases c4 : a0 ≥ a1
 ·
  rw [if_pos c4] at H
  have c4b0 : decide (a1 ≤ a0) = true := decide_eq_true c4
  clear c4
  obtain rfl := Option.some.inj H
  go_enter Try.func37, Try.ntmps37
  go_wp2
  go_ret
  exact ⟨by first | rfl | (simp; done) | (simp [*]; done), by repeat (first | exact Drawn0.refl _ | apply Drawn0.step)⟩
 ·
  rw [if_neg c4] at H
  have c4b0 : decide (a1 ≤ a0) = false := decide_eq_false c4
  clear c4
  obtain rfl := Option.some.inj H
  go_enter Try.func37, Try.ntmps37
  go_wp2
  go_ret
  exact ⟨by first | rfl | (simp; done) | (simp [*]; done), by repeat (first | exact Drawn0.refl _ | apply Drawn0.step)⟩
end Go.Proofs.Yteodlmgmmpkpoaa.PS
end
section
namespace Go.Proofs.Yteodlmgmmpkpoaa.PS
open Go.RowKit Go.Proofs.YteodlmgmmpkpoaaW.PrintWords Go.Proofs.YteodlmgmmpkpoaaW.PrintLast Go.Proofs.YteodlmgmmpkpoaaW.PrintMore
attribute [local go_sem] max2_int min2_int max_two min_two max_three min_three max_four min_four   -- for this text's walks alone
set_option linter.unusedVariables false
set_option linter.unusedSimpArgs false
set_option maxHeartbeats 8000000 in
set_option maxRecDepth 100000 in
theorem swashplateref01_Valid.calls (a0_0 : Int) (a0_1 : Int) (r : Bool) (w : World) (h : swashplateref01_Valid.f a0_0 a0_1 = some r) :
  Calls Try.prog 40 #[.agg #[.int .i64 a0_0, .int .i64 a0_1]] w fun e w' => e = .returned (.bool r) ∧ Below w.heap.size w w' := by
 have hu27 := Try.underlying27
 have HB := Aside0.mk (Below.refl w.heap.size w)
 have H : ((swashplateref01_From.f a0_0 (-1000000) 1000000).bind fun t330 => (if t330 = true then ((swashplateref01_From.f a0_1 a0_0 1000000).bind fun t331 => (some t331)) else (some false))) = some r := h
 clear h
 replace H := Option.bind_eq_some_iff.mp H
 obtain ⟨t330, A20, H⟩ := H
 replace H : (if t330 = true then ((swashplateref01_From.f a0_1 a0_0 1000000).bind fun t331 => (some t331)) else (some false)) = some r := H
 have A2 := Aside0.mk A20
 clear A20
 by_cases c3 : t330 = true
 ·
  subst c3
  have H1 : ((swashplateref01_From.f a0_1 a0_0 1000000).bind fun t331 => (some t331)) = some r := by rw [if_pos rfl] at H; exact H
  clear H
  have H := H1
  clear H1
  replace H := Option.bind_eq_some_iff.mp H
  obtain ⟨t331, A40, H⟩ := H
  replace H : (some t331) = some r := H
  have A4 := Aside0.mk A40
  clear A40
  obtain rfl := Option.some.inj H
  go_enter Try.func40, Try.ntmps40
  go_wp2_with (first | ((with_reducible refine gate_dst (N := 1) rfl ?_); refine box_event ?hg (N := 1) ?hd (cs := #[.int .i64 a0_0, .int .i64 a0_1]) (t := 27) ?hr ?_; (case hd => rfl); (case hg => rfl); (case hr => first | (go_simp; done) | (go_simp; rfl)); intro gb329 hg w5 hbox hb; have n0_ := Aside0.mk (below_step (bl_ HB.out) hb); have n1_ := Aside0.mk (hbox); have n2_ := Aside0.mk (szl_ hg HB.out); have n3_ := Aside0.mk (szl_ hg HB.out); clear HB; have HB := n0_; have BK329 := n1_; have GW329 := n2_; have GE329 := n3_; clear n0_ n1_ n2_ n3_ hb hbox hg; have hcz6_0 : w5.cell? ⟨gb329, 0, none⟩ = some (.int .i64 a0_0) := (blk_cell BK329.out 0).trans rfl; have hcz6_1 : w5.cell? ⟨gb329, 1, none⟩ = some (.int .i64 a0_1) := (blk_cell BK329.out 1).trans rfl; have hfz6_0 := blk_frozen BK329.out 0; have hfz6_1 := blk_frozen BK329.out 1) | ((with_reducible refine gate_callee (f := 37) rfl ?_); refine goesL_ (some 5) rfl rfl Try.func37 (by kernel_rfl) rfl #[.int .i64 a0_0, .int .i64 (-1000000), .int .i64 1000000] rfl (by (try simp only [List.map_toArray, List.map_cons, List.map_nil]); first | done | rfl | (simp only [List.length_drop, List.length_take]; rfl)) ?_; (with_reducible refine (swashplateref01_From.calls a0_0 (-1000000) 1000000 true _ A2.out).mono ?_); rintro e w' ⟨rfl, ⟨nd, rfl⟩⟩; refine ⟨_, rfl, ?_⟩) | (go_at_call 37; (with_reducible refine (swashplateref01_From.calls a0_1 a0_0 1000000 t331 _ A4.out).mono ?_); rintro e w' ⟨rfl, ⟨nd, rfl⟩⟩))
  go_ret
  exact ⟨by first | rfl | (simp [errW_none, errW_some] <;> rfl) | (simp [*, errW_none, errW_some] <;> rfl), bl_ HB.out⟩
 ·
  replace c3 := Bool.eq_false_iff.mpr c3
  subst c3
  have H1 : (some false) = some r := by rw [if_neg (show ¬ (false = true) by decide)] at H; exact H
  clear H
  have H := H1
  clear H1
  obtain rfl := Option.some.inj H
  go_enter Try.func40, Try.ntmps40
  go_wp2_with (first | ((with_reducible refine gate_dst (N := 1) rfl ?_); refine box_event ?hg (N := 1) ?hd (cs := #[.int .i64 a0_0, .int .i64 a0_1]) (t := 27) ?hr ?_; (case hd => rfl); (case hg => rfl); (case hr => first | (go_simp; done) | (go_simp; rfl)); intro gb329 hg w7 hbox hb; have n0_ := Aside0.mk (below_step (bl_ HB.out) hb); have n1_ := Aside0.mk (hbox); have n2_ := Aside0.mk (szl_ hg HB.out); have n3_ := Aside0.mk (szl_ hg HB.out); clear HB; have HB := n0_; have BK329 := n1_; have GW329 := n2_; have GE329 := n3_; clear n0_ n1_ n2_ n3_ hb hbox hg; have hcz8_0 : w7.cell? ⟨gb329, 0, none⟩ = some (.int .i64 a0_0) := (blk_cell BK329.out 0).trans rfl; have hcz8_1 : w7.cell? ⟨gb329, 1, none⟩ = some (.int .i64 a0_1) := (blk_cell BK329.out 1).trans rfl; have hfz8_0 := blk_frozen BK329.out 0; have hfz8_1 := blk_frozen BK329.out 1) | ((with_reducible refine gate_callee (f := 37) rfl ?_); refine goesL_ (some 5) rfl rfl Try.func37 (by kernel_rfl) rfl #[.int .i64 a0_0, .int .i64 (-1000000), .int .i64 1000000] rfl (by (try simp only [List.map_toArray, List.map_cons, List.map_nil]); first | done | rfl | (simp only [List.length_drop, List.length_take]; rfl)) ?_; (with_reducible refine (swashplateref01_From.calls a0_0 (-1000000) 1000000 false _ A2.out).mono ?_); rintro e w' ⟨rfl, ⟨nd, rfl⟩⟩; refine ⟨_, rfl, ?_⟩))
  go_ret
  exact ⟨by first | rfl | (simp [errW_none, errW_some] <;> rfl) | (simp [*, errW_none, errW_some] <;> rfl), bl_ HB.out⟩
end Go.Proofs.Yteodlmgmmpkpoaa.PS
end
section
namespace Go.Proofs.Yteodlmgmmpkpoaa.PS
open Go.RowKit Go.Proofs.YteodlmgmmpkpoaaW.PrintWords Go.Proofs.YteodlmgmmpkpoaaW.PrintLast Go.Proofs.YteodlmgmmpkpoaaW.PrintMore
attribute [local go_sem] max2_int min2_int max_two min_two max_three min_three max_four min_four   -- for this text's walks alone
set_option linter.unusedVariables false
set_option linter.unusedSimpArgs false
set_option maxHeartbeats 8000000 in
set_option maxRecDepth 100000 in
theorem swashplateref01_Check.calls (k : Nat) (A0 : Option Addr) (c0 : Nat) (l0 : List (S27)) (r : Int) (w : World) (hr0 : Kd.C k27 w A0 l0.length l0) (hc0 : l0.length ≤ c0) (h : swashplateref01_Check.f k l0 = some r) :
  Calls Try.prog 28 #[.slice A0 l0.length c0] w fun e w' => e = .returned (.int .i64 r) ∧ Below w.heap.size w w' := by
 have hu27 := Try.underlying27
 have HR0 := Aside0.mk hr0
 have HC0 := Aside0.mk hc0
 clear hr0 hc0
 have HB := Aside0.mk (Below.refl w.heap.size w)
 have H : ((swashplateref01_From.f (l0.length : Int) 1 3).bind fun t332 => (if t332 = true then (swashplateref01_Check.l0 k l0 0) else (some 10))) = some r := h
 clear h
 replace H := Option.bind_eq_some_iff.mp H
 obtain ⟨t332, A20, H⟩ := H
 replace H : (if t332 = true then (swashplateref01_Check.l0 k l0 0) else (some 10)) = some r := H
 have A2 := Aside0.mk A20
 clear A20
 by_cases c3 : t332 = true
 ·
  subst c3
  have H1 : (swashplateref01_Check.l0 k l0 0) = some r := by rw [if_pos rfl] at H; exact H
  clear H
  have H := H1
  clear H1
  have H' := Aside0.mk H
  clear H
  go_enter Try.func28, Try.ntmps28
  go_wp2_with (first | ((with_reducible refine gate_callee (f := 37) rfl ?_); refine goesL_ (some 6) rfl rfl Try.func37 (by kernel_rfl) rfl #[.int .i64 (l0.length : Int), .int .i64 1, .int .i64 3] rfl (by (try simp only [List.map_toArray, List.map_cons, List.map_nil]); first | done | rfl | (simp only [List.length_drop, List.length_take]; rfl)) ?_; (with_reducible refine (swashplateref01_From.calls (l0.length : Int) 1 3 true _ A2.out).mono ?_); rintro e w' ⟨rfl, ⟨nd, rfl⟩⟩; refine ⟨_, rfl, ?_⟩))
  go_loopg [3] k (fun kq v3 w' => ∃ (x3_1 : Int), v3 = .int .i64 x3_1 ∧ Aside0 (swashplateref01_Check.l0 kq l0 x3_1 = some r) ∧ Aside0 (kq ≤ k) ∧ Aside0 (Below w.heap.size w w'))
  case atStart => exact ⟨(0), (by first | rfl | (simp; done) | (simp [*]; done)), H', ⟨Nat.le_refl _⟩, ⟨bl_ HB.out⟩⟩
  case round =>
   clear H'
   try clear c2
   try clear p2
   try clear c3
   obtain ⟨x3_1, rfl, HA, HK1, HB⟩ := hrel
   cases gk with
   | zero => exact absurd HA.out (by simp [swashplateref01_Check.l0])
   | succ k1 =>
    have H := HA.out
    clear HA
    simp only [swashplateref01_Check.l0] at H
    by_cases c4 : x3_1 < (l0.length : Int)
    ·
     rw [if_pos c4] at H
     have c4b0 : decide (x3_1 < (l0.length : Int)) = true := decide_eq_true c4
     clear c4
     by_cases c5 : 0 ≤ x3_1
     ·
      rw [if_pos c5] at H
      have c5b0 : decide (0 ≤ x3_1) = true := decide_eq_true c5
      clear c5
      replace H := Option.bind_eq_some_iff.mp H
      obtain ⟨t334, A60, H⟩ := H
      replace H : (if t334 = true then (swashplateref01_Check.l0 k1 l0 (wrap64 (x3_1 + 1))) else (some 10)) = some r := H
      have A6 := Aside0.mk A60
      clear A60
      by_cases c7 : t334 = true
      ·
       subst c7
       have H1 : (swashplateref01_Check.l0 k1 l0 (wrap64 (x3_1 + 1))) = some r := by rw [if_pos rfl] at H; exact H
       clear H
       have H := H1
       clear H1
       have H' := Aside0.mk H
       clear H
       have p333 : 0 ≤ (x3_1 : Int) := of_decide_eq_true (by first | (with_reducible assumption) | assumption)
       have q333 : x3_1 < (l0.length : Int) := of_decide_eq_true (by first | (with_reducible assumption) | assumption)
       obtain ⟨ad333, e333, hx333_0, hx333_1⟩ := at_T27 HR0.out x3_1 p333 q333
       cases e333
       replace hx333_0 := (HB.out.cell (World.block_lt_of_cell? w _ hx333_0)).trans hx333_0
       replace hx333_1 := (HB.out.cell (World.block_lt_of_cell? w _ hx333_1)).trans hx333_1
       replace p333 := eq_true p333
       replace q333 := eq_true q333
       go_wp2_with (first | ((with_reducible refine gate_callee (f := 40) rfl ?_); refine goesL_ (some 18) rfl rfl Try.func40 (by kernel_rfl) rfl #[.agg #[.int .i64 ((rd_T27 l0 x3_1).f0), .int .i64 ((rd_T27 l0 x3_1).f1)]] rfl (by (try simp only [List.map_toArray, List.map_cons, List.map_nil]); first | done | rfl | (simp only [List.length_drop, List.length_take]; rfl)) ?_; (with_reducible refine (swashplateref01_Valid.calls ((rd_T27 l0 x3_1).f0) ((rd_T27 l0 x3_1).f1) true _ A6.out).mono ?_); rintro e w8 ⟨rfl, hb⟩; refine ⟨_, rfl, ?_⟩; have n0_ := Aside0.mk (below_step (bl_ HB.out) hb); clear HB; have HB := n0_; clear n0_; (try clear hb); (try clear hb2); (try clear hk); (try clear hi)))
       go_roundg k1
       case measure => have := HK1.out; omega
       case rel => exact ⟨(wrap64 (x3_1 + 1)), (by first | rfl | (simp; done) | (simp [*]; done)), H', ⟨by have := HK1.out; omega⟩, ⟨bl_ HB.out⟩⟩
      ·
       replace c7 := Bool.eq_false_iff.mpr c7
       subst c7
       have H1 : (some 10) = some r := by rw [if_neg (show ¬ (false = true) by decide)] at H; exact H
       clear H
       have H := H1
       clear H1
       obtain rfl := Option.some.inj H
       have p333 : 0 ≤ (x3_1 : Int) := of_decide_eq_true (by first | (with_reducible assumption) | assumption)
       have q333 : x3_1 < (l0.length : Int) := of_decide_eq_true (by first | (with_reducible assumption) | assumption)
       obtain ⟨ad333, e333, hx333_0, hx333_1⟩ := at_T27 HR0.out x3_1 p333 q333
       cases e333
       replace hx333_0 := (HB.out.cell (World.block_lt_of_cell? w _ hx333_0)).trans hx333_0
       replace hx333_1 := (HB.out.cell (World.block_lt_of_cell? w _ hx333_1)).trans hx333_1
       replace p333 := eq_true p333
       replace q333 := eq_true q333
       go_wp2_with (first | ((with_reducible refine gate_callee (f := 40) rfl ?_); refine goesL_ (some 18) rfl rfl Try.func40 (by kernel_rfl) rfl #[.agg #[.int .i64 ((rd_T27 l0 x3_1).f0), .int .i64 ((rd_T27 l0 x3_1).f1)]] rfl (by (try simp only [List.map_toArray, List.map_cons, List.map_nil]); first | done | rfl | (simp only [List.length_drop, List.length_take]; rfl)) ?_; (with_reducible refine (swashplateref01_Valid.calls ((rd_T27 l0 x3_1).f0) ((rd_T27 l0 x3_1).f1) false _ A6.out).mono ?_); rintro e w9 ⟨rfl, hb⟩; refine ⟨_, rfl, ?_⟩; have n0_ := Aside0.mk (below_step (bl_ HB.out) hb); clear HB; have HB := n0_; clear n0_; (try clear hb); (try clear hb2); (try clear hk); (try clear hi)))
       go_ret
       exact ⟨by first | rfl | (simp [errW_none, errW_some] <;> rfl) | (simp [*, errW_none, errW_some] <;> rfl), bl_ HB.out⟩
     ·
      rw [if_neg c5] at H
      exact absurd H (by simp)
    ·
     rw [if_neg c4] at H
     have c4b0 : decide (x3_1 < (l0.length : Int)) = false := decide_eq_false c4
     clear c4
     obtain rfl := Option.some.inj H
     go_wp2
     go_ret
     exact ⟨by first | rfl | (simp [errW_none, errW_some] <;> rfl) | (simp [*, errW_none, errW_some] <;> rfl), bl_ HB.out⟩
 ·
  replace c3 := Bool.eq_false_iff.mpr c3
  subst c3
  have H1 : (some 10) = some r := by rw [if_neg (show ¬ (false = true) by decide)] at H; exact H
  clear H
  have H := H1
  clear H1
  obtain rfl := Option.some.inj H
  go_enter Try.func28, Try.ntmps28
  go_wp2_with (first | ((with_reducible refine gate_callee (f := 37) rfl ?_); refine goesL_ (some 6) rfl rfl Try.func37 (by kernel_rfl) rfl #[.int .i64 (l0.length : Int), .int .i64 1, .int .i64 3] rfl (by (try simp only [List.map_toArray, List.map_cons, List.map_nil]); first | done | rfl | (simp only [List.length_drop, List.length_take]; rfl)) ?_; (with_reducible refine (swashplateref01_From.calls (l0.length : Int) 1 3 false _ A2.out).mono ?_); rintro e w' ⟨rfl, ⟨nd, rfl⟩⟩; refine ⟨_, rfl, ?_⟩))
  go_ret
  exact ⟨by first | rfl | (simp [errW_none, errW_some] <;> rfl) | (simp [*, errW_none, errW_some] <;> rfl), bl_ HB.out⟩
end Go.Proofs.Yteodlmgmmpkpoaa.PS
end
section
namespace Go.Proofs.Yteodlmgmmpkpoaa.PS
open Go.RowKit Go.Deep Go.ChangeShapes Go.WideShapes Go.ChangeAt Go.Proofs.YteodlmgmmpkpoaaW.PrintWords
set_option linter.unusedVariables false
theorem opn38 : Opn Try.prog (Kd.slice 27 k27) 38 (fun l => (∀ a ∈ l, wfS a) ∧ l.length ≤ maxLen) := opn_slice Try.underlying38 (by kernel_rfl) opn27
section
variable {H : Type} {enc : TypeId × Value → H} {w : World} {base : Nat} {held : Bool} {v : Value} {d : DataW H} {ps : List MemPlace} {r : Reach} {b0 : Nat}
set_option maxRecDepth 100000 in
theorem arg95 (hv : Value.okWide Try.prog w r b0 95 v) (h : DataW.Trod enc Try.prog w base (fun _ => true) held 95 v d ps) :
    ∃ A c, ∃ l : List (List S27), v = .slice A l.length c ∧ l.length ≤ c ∧ (Kd.slice 27 k27).C w A l.length l ∧ (∀ a ∈ l, (∀ b ∈ a, wfS b) ∧ a.length ≤ maxLen) ∧ l.length ≤ maxLen := by
  obtain ⟨a0, len, cap, rfl⟩ := okWide_slice Try.underlying95 hv
  obtain ⟨fuel, hf⟩ := h
  obtain ⟨A, c, l, hcs, h1, h2, h3, h4⟩ := opn_row Try.underlying95 opn38 hf
  simp [Value.cells] at hcs
  obtain ⟨rfl, rfl, rfl⟩ := hcs
  exact ⟨_, _, l, rfl, h1, h2, h3, h4⟩
end
end Go.Proofs.Yteodlmgmmpkpoaa.PS
end
section
namespace Go.Proofs.Yteodlmgmmpkpoaa.PS
open Go.RowKit Go.Proofs.YteodlmgmmpkpoaaW.PrintWords Go.Proofs.YteodlmgmmpkpoaaW.PrintLast Go.Proofs.YteodlmgmmpkpoaaW.PrintMore
attribute [local go_sem] max2_int min2_int max_two min_two max_three min_three max_four min_four   -- for this text's walks alone
set_option linter.unusedVariables false
set_option linter.unusedSimpArgs false
mutual
def swashplateref01_Minus.j0 : Nat → List (S27) → List (S27) → Bool → Option ((List (List (S27))) × Int)
 | 0, _, _, _ => none
 | k + 1, x0, x1, x20 => if x20 = true then (some (([] : List (List (S27))), 10)) else (if (x0.length : Int) = (x1.length : Int) then ((some (([] : List (S27)) : List (S27))).bind fun y581 => (if y581.length + x0.length < 8796093022208 then (swashplateref01_Minus.l0 k x0 x1 ([] : List (List (S27))) (y581 ++ x0) 0) else (none))) else (some (([] : List (List (S27))), 1)))
def swashplateref01_Minus.l0 : Nat → List (S27) → List (S27) → List (List (S27)) → List (S27) → Int → Option ((List (List (S27))) × Int)
 | 0, _, _, _, _, _ => none
 | k + 1, x0, x1, x6, x7, x8 => if x8 < (x0.length : Int) then (if 0 ≤ x8 then (if x8 < (x7.length : Int) then (if x8 < (x1.length : Int) then (if ((rd_T27 x7 x8).f0) < ((rd_T27 x1 x8).f0) then ((some (([] : List (S27)) : List (S27))).bind fun y590 => (if y590.length + x7.length < 8796093022208 then ((some (y590 ++ x7 : List (S27))).bind fun y593 => (if x8 < (y593.length : Int) then (if x6.length < 5864062014805 then (swashplateref01_Minus.j2 k x0 x1 (x6 ++ [(y593.set (x8 : Int).toNat (⟨(rd_T27 y593 x8).f0, mn ((rd_T27 x7 x8).f1) (wrap64 (((rd_T27 x1 x8).f0) - 1))⟩ : S27))]) x7 x8 ((rd_T27 x7 x8).f0) ((rd_T27 x7 x8).f1)) else (none)) else (none))) else (none))) else (swashplateref01_Minus.j2 k x0 x1 x6 x7 x8 ((rd_T27 x7 x8).f0) ((rd_T27 x7 x8).f1))) else (none)) else (none)) else (none)) else (some (x6, 0))
def swashplateref01_Minus.j2 : Nat → List (S27) → List (S27) → List (List (S27)) → List (S27) → Int → Int → Int → Option ((List (List (S27))) × Int)
 | 0, _, _, _, _, _, _, _ => none
 | k + 1, x0, x1, x6, x7, x8, x9, x10 => if 0 ≤ x8 then (if x8 < (x1.length : Int) then (if x10 > ((rd_T27 x1 x8).f1) then ((some (([] : List (S27)) : List (S27))).bind fun y602 => (if y602.length + x7.length < 8796093022208 then ((some (y602 ++ x7 : List (S27))).bind fun y605 => (if x8 < (y605.length : Int) then (if x6.length < 5864062014805 then ((some (x6 ++ [(y605.set (x8 : Int).toNat (⟨mx x9 (wrap64 (((rd_T27 x1 x8).f1) + 1)), (rd_T27 y605 x8).f1⟩ : S27))] : List (List (S27)))).bind fun y610 => (if x8 < (x7.length : Int) then ((some (x7.set (x8 : Int).toNat (⟨mx x9 ((rd_T27 x1 x8).f0), mn x10 ((rd_T27 x1 x8).f1)⟩ : S27) : List (S27))).bind fun y615 => (if ((rd_T27 y615 x8).f0) > ((rd_T27 y615 x8).f1) then (some (y610, 0)) else (swashplateref01_Minus.l0 k x0 x1 y610 y615 (wrap64 (x8 + 1))))) else (none))) else (none)) else (none))) else (none))) else (if x8 < (x7.length : Int) then ((some (x7.set (x8 : Int).toNat (⟨mx x9 ((rd_T27 x1 x8).f0), mn x10 ((rd_T27 x1 x8).f1)⟩ : S27) : List (S27))).bind fun y620 => (if ((rd_T27 y620 x8).f0) > ((rd_T27 y620 x8).f1) then (some (x6, 0)) else (swashplateref01_Minus.l0 k x0 x1 x6 y620 (wrap64 (x8 + 1))))) else (none))) else (none)) else (none)
end
def swashplateref01_Minus.f (k : Nat) (l0 : List (S27)) (l1 : List (S27)) : Option ((List (List (S27))) × Int) := (swashplateref01_Check.f k l0).bind fun t579 => (if t579 = 0 then ((swashplateref01_Check.f k l1).bind fun t580 => (swashplateref01_Minus.j0 k l0 l1 (t580 != 0))) else (swashplateref01_Minus.j0 k l0 l1 true))
def swashplateref01_Minus.T10 : Bool × List (List Nat × List Nat) := (true, [([], []), ([], []), ([0, 1], [0, 1]), ([2], [2]), ([3], [3]), ([], []), ([], []), ([5, 6], [5, 6]), ([7], [7]), ([8], [8]), ([4, 0, 1, 2, 3, 4], [4]), ([9, 10, 0, 1, 2, 3, 4, 5, 6, 7, 8, 9, 10], [9])])
def swashplateref01_Minus.B10 : List Nat := [0, 0, 3, 7, 15, 0, 0, 96, 224, 480, 31, 2047]
theorem swashplateref01_Minus.tab10 : rtab .any (opsOf Try.f61 10) = swashplateref01_Minus.T10 := by kernel_rfl
theorem swashplateref01_Minus.bits10 : waitsOk swashplateref01_Minus.T10.2 swashplateref01_Minus.B10 = true := by kernel_rfl
def swashplateref01_Minus.T19 : Bool × List (List Nat × List Nat) := (true, [([], []), ([], []), ([], []), ([], []), ([], []), ([3, 4], [3, 4]), ([5], [5]), ([6], [6]), ([2, 7], [2, 7]), ([], []), ([], []), ([], []), ([10, 11], [10, 11]), ([12], [12]), ([13], [13]), ([9, 14], [9, 14]), ([8, 15], [8, 15]), ([0, 1, 0, 1, 2, 3, 4, 5, 6, 7, 8, 9, 10, 11, 12, 13, 14, 15, 16], [0, 1]), ([17, 16, 0, 1, 2, 3, 4, 5, 6, 7, 8, 9, 10, 11, 12, 13, 14, 15, 16], [16, 17])])
def swashplateref01_Minus.B19 : List Nat := [0, 0, 0, 0, 0, 24, 56, 120, 252, 0, 0, 0, 3072, 7168, 15360, 32256, 65532, 131071, 262143]
theorem swashplateref01_Minus.tab19 : rtab .any (opsOf Try.f61 19) = swashplateref01_Minus.T19 := by kernel_rfl
theorem swashplateref01_Minus.bits19 : waitsOk swashplateref01_Minus.T19.2 swashplateref01_Minus.B19 = true := by kernel_rfl
def swashplateref01_Minus.T20 : Bool × List (List Nat × List Nat) := (true, [([], []), ([], []), ([0, 1], [0, 1]), ([2], [2]), ([3], [3]), ([], []), ([], []), ([5, 6], [5, 6]), ([7], [7]), ([8], [8]), ([4, 9], [4, 9])])
def swashplateref01_Minus.B20 : List Nat := [0, 0, 3, 7, 15, 0, 0, 96, 224, 480, 1023]
theorem swashplateref01_Minus.tab20 : rtab .any (opsOf Try.f61 20) = swashplateref01_Minus.T20 := by kernel_rfl
theorem swashplateref01_Minus.bits20 : waitsOk swashplateref01_Minus.T20.2 swashplateref01_Minus.B20 = true := by kernel_rfl
set_option maxHeartbeats 8000000 in
set_option maxRecDepth 100000 in
theorem swashplateref01_Minus.calls (k : Nat) (A0 : Option Addr) (c0 : Nat) (l0 : List (S27)) (A1 : Option Addr) (c1 : Nat) (l1 : List (S27)) (r1 : List (List (S27))) (r2 : Int) (w : World) (hr0 : Kd.C k27 w A0 l0.length l0) (hc0 : l0.length ≤ c0) (hr1 : Kd.C k27 w A1 l1.length l1) (hc1 : l1.length ≤ c1) (h : swashplateref01_Minus.f k l0 l1 = some (r1, r2)) :
  Calls Try.prog 61 #[.slice A0 l0.length c0, .slice A1 l1.length c1] w fun e w' => ∃ v0_ : Value, e = .returned (.tuple #[v0_, .int .i64 r2]) ∧ Kd.S (Kd.slice 27 k27) 38 w' w.heap.size (fun _ => True) v0_ r1 ∧ Below w.heap.size w w' := by
 have hu27 := Try.underlying27
 have HR0 := Aside0.mk hr0
 have HC0 := Aside0.mk hc0
 clear hr0 hc0
 have HR1 := Aside0.mk hr1
 have HC1 := Aside0.mk hc1
 clear hr1 hc1
 have HB := Aside0.mk (Below.refl w.heap.size w)
 have H : ((swashplateref01_Check.f k l0).bind fun t579 => (if t579 = 0 then ((swashplateref01_Check.f k l1).bind fun t580 => (swashplateref01_Minus.j0 k l0 l1 (t580 != 0))) else (swashplateref01_Minus.j0 k l0 l1 true))) = some (r1, r2) := h
 clear h
 have HC3 := Aside0.mk H
 clear H
 go_enter Try.func61, Try.ntmps61
 go_upto_region 1 with (fail)
 go_cut [20] (fun v20 wc => ∃ (kq : Nat) (x20_2 : Bool), v20 = .bool x20_2 ∧ Aside0 (swashplateref01_Minus.j0 kq l0 l1 x20_2 = some (r1, r2)) ∧ Aside0 (kq ≤ k) ∧ Aside0 (Below w.heap.size w wc))
 case first =>
  have H := HC3.out
  clear HC3
  replace H := Option.bind_eq_some_iff.mp H
  obtain ⟨t579, A40, H⟩ := H
  replace H : (if t579 = 0 then ((swashplateref01_Check.f k l1).bind fun t580 => (swashplateref01_Minus.j0 k l0 l1 (t580 != 0))) else (swashplateref01_Minus.j0 k l0 l1 true)) = some (r1, r2) := H
  have A4 := Aside0.mk A40
  clear A40
  by_cases c5 : t579 = 0
  ·
   rw [if_pos c5] at H
   have c5b0 : (t579 == 0) = true := beq_iff_eq.mpr c5
   have c5b1 : (t579 != 0) = false := bne_eq_false_iff_eq.mpr c5
   clear c5
   (first | rw [c5b0] | (simp only [i64_w, i32_w]; rw [c5b0]) | skip)
   replace H := Option.bind_eq_some_iff.mp H
   obtain ⟨t580, A60, H⟩ := H
   replace H : (swashplateref01_Minus.j0 k l0 l1 (t580 != 0)) = some (r1, r2) := H
   have A6 := Aside0.mk A60
   clear A60
   have H' := Aside0.mk H
   clear H
   go_wp2_with (first | ((with_reducible refine gate_callee (f := 28) rfl ?_); refine goesL_ (some 14) rfl rfl Try.func28 (by kernel_rfl) rfl #[.slice A0 l0.length c0] rfl (by (try simp only [List.map_toArray, List.map_cons, List.map_nil]); first | done | rfl | (simp only [List.length_drop, List.length_take]; rfl)) ?_; (with_reducible refine (swashplateref01_Check.calls k _ _ l0 t579 _ ?side1 ?side2 A4.out).mono ?_); (case side1 => exact cr_ (Kd.C_below HR0.out HB.out)); (case side2 => exact HC0.out); rintro e w7 ⟨rfl, hb⟩; refine ⟨_, rfl, ?_⟩; have n0_ := Aside0.mk (below_step (bl_ HB.out) hb); clear HB; have HB := n0_; clear n0_; (try clear hb); (try clear hb2); (try clear hk); (try clear hi)) | (go_at_call 28; (with_reducible refine (swashplateref01_Check.calls k _ _ l1 t580 _ ?side1 ?side2 A6.out).mono ?_); (case side1 => exact cr_ (Kd.C_below HR1.out HB.out)); (case side2 => exact HC1.out); rintro e w8 ⟨rfl, hb⟩; have n0_ := Aside0.mk (below_step (bl_ HB.out) hb); clear HB; have HB := n0_; clear n0_; (try clear hb); (try clear hb2); (try clear hk); (try clear hi)))
   go_meet
   case rel => exact ⟨_, ((t580 != 0)), (by first | rfl | (simp; done) | (simp [*]; done)), H', ⟨by first | omega | exact Nat.le_refl _⟩, ⟨bl_ HB.out⟩⟩
  ·
   rw [if_neg c5] at H
   have c5b0 : (t579 == 0) = false := beq_eq_false_iff_ne.mpr c5
   have c5b1 : (t579 != 0) = true := bne_iff_ne.mpr c5
   (first | rw [c5b0] | (simp only [i64_w, i32_w]; rw [c5b0]) | skip)
   have H' := Aside0.mk H
   clear H
   go_wp2_with (first | ((with_reducible refine gate_callee (f := 28) rfl ?_); refine goesL_ (some 14) rfl rfl Try.func28 (by kernel_rfl) rfl #[.slice A0 l0.length c0] rfl (by (try simp only [List.map_toArray, List.map_cons, List.map_nil]); first | done | rfl | (simp only [List.length_drop, List.length_take]; rfl)) ?_; (with_reducible refine (swashplateref01_Check.calls k _ _ l0 t579 _ ?side1 ?side2 A4.out).mono ?_); (case side1 => exact cr_ (Kd.C_below HR0.out HB.out)); (case side2 => exact HC0.out); rintro e w9 ⟨rfl, hb⟩; refine ⟨_, rfl, ?_⟩; have n0_ := Aside0.mk (below_step (bl_ HB.out) hb); clear HB; have HB := n0_; clear n0_; (try clear hb); (try clear hb2); (try clear hk); (try clear hi)))
   go_meet
   case rel => exact ⟨_, (true), (by first | rfl | (simp; done) | (simp [*]; done)), H', ⟨by first | omega | exact Nat.le_refl _⟩, ⟨bl_ HB.out⟩⟩
 case rest =>
  clear HC3
  try clear c1
  try clear c2
  try clear p2
  try clear c5
  try clear c5b0
  try clear c5b1
  try clear c6
  obtain ⟨kq, x20_2, rfl, HA, HJ2, HB⟩ := hcut
  cases kq with
  | zero => exact absurd HA.out (by simp [swashplateref01_Minus.j0])
  | succ kj2 =>
   have H := HA.out
   clear HA
   simp only [swashplateref01_Minus.j0] at H
   by_cases c10 : x20_2 = true
   ·
    subst c10
    have H1 : (some (([] : List (List (S27))), 10)) = some (r1, r2) := by rw [if_pos rfl] at H; exact H
    clear H
    have H := H1
    clear H1
    simp only [Option.some.injEq, Prod.mk.injEq] at H
    obtain ⟨rfl, rfl⟩ := H
    go_wp2
    go_ret2
    exact ⟨_, by first | rfl | (simp [errW_none, errW_some] <;> rfl) | (simp [*, errW_none, errW_some] <;> rfl), by first | exact Kd.S_nil _ _ _ _ _ | exact Kd.N_nil _ _ _ _ _ | exact Kd.V_nil _ _ _ _ _ | exact Kd.Q_nil _ _ _ _ _ | exact Kd.R_nil _ _ _ _ _, bl_ HB.out⟩
   ·
    replace c10 := Bool.eq_false_iff.mpr c10
    subst c10
    have H1 : (if (l0.length : Int) = (l1.length : Int) then ((some (([] : List (S27)) : List (S27))).bind fun y581 => (if y581.length + l0.length < 8796093022208 then (swashplateref01_Minus.l0 kj2 l0 l1 ([] : List (List (S27))) (y581 ++ l0) 0) else (none))) else (some (([] : List (List (S27))), 1))) = some (r1, r2) := by rw [if_neg (show ¬ (false = true) by decide)] at H; exact H
    clear H
    have H := H1
    clear H1
    by_cases c11 : (l0.length : Int) = (l1.length : Int)
    ·
     rw [if_pos c11] at H
     have c11b0 : ((l0.length : Int) == (l1.length : Int)) = true := beq_iff_eq.mpr c11
     have c11b1 : ((l0.length : Int) != (l1.length : Int)) = false := bne_eq_false_iff_eq.mpr c11
     have c11b2 : (l0.length == l1.length) = true := by first | simpa using c11 | (simp at c11 ⊢; omega)
     clear c11
     obtain ⟨y581, hy581⟩ : ∃ y_ : List (S27), y_ = (([] : List (S27))) := ⟨_, rfl⟩
     replace H : (if y581.length + l0.length < 8796093022208 then (swashplateref01_Minus.l0 kj2 l0 l1 ([] : List (List (S27))) (y581 ++ l0) 0) else (none)) = some (r1, r2) := by first | (rw [hy581]; with_reducible exact H) | (have H2_ := (Option.bind_some _ _).symm.trans H; rw [hy581]; with_reducible exact H2_) | (have H2_ := (Option.bind_some _ _).symm.trans H; with_reducible exact H2_) | with_reducible exact H | (rw [hy581]; exact H) | exact H
     have Ny581 := Aside0.mk hy581
     clear hy581
     by_cases c12 : y581.length + l0.length < 8796093022208
     ·
      rw [if_pos c12] at H
      have LMc12 := Aside0.mk c12
      clear c12
      obtain ⟨y584, hy584⟩ : ∃ y_ : List (S27), y_ = (y581 ++ l0) := ⟨_, rfl⟩
      replace H : (swashplateref01_Minus.l0 kj2 l0 l1 ([] : List (List (S27))) y584 0) = some (r1, r2) := by first | (rw [hy584]; with_reducible exact H) | (have H2_ := (Option.bind_some _ _).symm.trans H; rw [hy584]; with_reducible exact H2_) | (have H2_ := (Option.bind_some _ _).symm.trans H; with_reducible exact H2_) | with_reducible exact H | (rw [hy584]; exact H) | exact H
      have Ny584 := Aside0.mk hy584
      clear hy584
      have H' := Aside0.mk H
      clear H
      go_wp2_with (first | ((with_reducible refine gate_dst (N := 26) rfl ?_); refine Kd.R_lit k27 _ 27 ?hg (N := 26) ?hd (xs := ([] : List (S27))) (inner := []) (ok := fun _ => True) (okp := fun _ => True) ?hr ?hp (fun _ hk => hk) trivial (Below.refl _ _) (Nat.le_refl _) (by simp) ?_; (case hd => rfl); (case hg => rfl); (case hr => first | (go_simp; done) | (go_simp; rfl)); (case hp => exact (Reps.none _ _)); intro v582 w13 ho14 hb hg_ hnew_; clear hg_ hnew_; (first | rw [← Ny581.out] at ho14 | (simp only [Int.reduceToNat] at ho14; rw [← Ny581.out] at ho14)); have n0_ := Aside0.mk (Kd.R_lower ho14 (below_size (bl_ HB.out))); have n1_ := Aside0.mk (below_step (bl_ HB.out) hb); clear HB; have HO583 := n0_; have HB := n1_; clear n0_ n1_ hb ho14) | ((with_reducible refine gate_builtin (b := .append) (xs := #[.tmp 26, .tmp 27]) rfl ?_); at_builtin; refine Kd.R_append_rows k27 (w0 := w) w.heap.size rfl (.tmp 26) (.tmp 27) 38 27 (.agg #[(.int .i64 0), (.int .i64 0)]) 16 rfl Try.underlying38 info27 rfl (by decide) (by omega) v582 y581 l0 _ _ _ (fun _ => True) (fun _ => False) rfl rfl ?aO ?aR (fun _ _ h => h) (fun _ h => h.elim) ?aF ?aB ?aS ?aL ?_; (case aR => exact cr_ (Kd.C_below HR0.out HB.out)); (case aB => exact (bl_ HB.out)); (case aF => exact (fun _ _ => trivial)); (case aO => exact (by (with_reducible repeat (first | apply Kd.R_alloc | apply Kd.R_drewN | apply Kd.R_drew)); exact HO583.out)); (case aS => exact (below_size (bl_ HB.out))); (case aL => have := LMc12.out; omega); intro v585 w15 ho hb hg hat; rw [← Ny584.out] at ho; have n0_ := Aside0.mk (hb); have n1_ := Aside0.mk (ho); clear HB HO583; have HB := n0_; have HO586 := n1_; clear n0_ n1_ ho hb hg hat))
      go_loopg [6, 8] kj2 (fun kq v6 v8 w' => ∃ (x6_2 : List (List (S27))) (x7_2 : List (S27)) (x8_2 : Int), v8 = .int .i64 x8_2 ∧ Aside0 (swashplateref01_Minus.l0 kq l0 l1 x6_2 x7_2 x8_2 = some (r1, r2)) ∧ Aside0 (kq ≤ kj2) ∧ Aside0 (Kd.S (Kd.slice 27 k27) 38 w' w.heap.size (fun k_ => some k_ ≠ (v585 : Value).ownBlock) v6 x6_2) ∧ Aside0 (Kd.R k27 27 w' w.heap.size (fun _ => True) v585 x7_2) ∧ Aside0 (Below w.heap.size w w'))
      case atStart => exact ⟨(([] : List (List (S27)))), (y584), (0), (by first | rfl | (simp; done) | (simp [*]; done)), H', ⟨Nat.le_refl _⟩, ⟨by first | exact Kd.S_nil _ _ _ _ _ | exact Kd.N_nil _ _ _ _ _ | exact Kd.V_nil _ _ _ _ _ | exact Kd.Q_nil _ _ _ _ _ | exact Kd.R_nil _ _ _ _ _⟩, ⟨by (with_reducible repeat (first | apply Kd.R_alloc | apply Kd.R_drewN | apply Kd.R_drew)); exact HO586.out⟩, ⟨bl_ HB.out⟩⟩
      case round =>
       clear H'
       try clear c1
       try clear c2
       try clear p2
       try clear c5
       try clear c5b0
       try clear c5b1
       try clear c6
       try clear c10
       try clear c11
       try clear c11b0
       try clear c11b1
       try clear c11b2
       try clear c12
       try clear p2
       obtain ⟨x6_2, x7_2, x8_2, rfl, HA, HK2, HO_6, HO_7, HB⟩ := hrel
       cases gk with
       | zero => exact absurd HA.out (by simp [swashplateref01_Minus.l0])
       | succ k2 =>
        have H := HA.out
        clear HA
        simp only [swashplateref01_Minus.l0] at H
        by_cases c16 : x8_2 < (l0.length : Int)
        ·
         rw [if_pos c16] at H
         have c16b0 : decide (x8_2 < (l0.length : Int)) = true := decide_eq_true c16
         clear c16
         by_cases c17 : 0 ≤ x8_2
         ·
          rw [if_pos c17] at H
          have c17b0 : decide (0 ≤ x8_2) = true := decide_eq_true c17
          clear c17
          by_cases c18 : x8_2 < (x7_2.length : Int)
          ·
           rw [if_pos c18] at H
           have c18b0 : decide (x8_2 < (x7_2.length : Int)) = true := decide_eq_true c18
           clear c18
           by_cases c19 : x8_2 < (l1.length : Int)
           ·
            rw [if_pos c19] at H
            have c19b0 : decide (x8_2 < (l1.length : Int)) = true := decide_eq_true c19
            clear c19
            have HC20 := Aside0.mk H
            clear H
            try go_wp2
            have n0_ := Aside0.mk (Kd.S_drew HO_6.out)
            have n1_ := Aside0.mk (Kd.R_drew HO_7.out)
            have n2_ := Aside0.mk (below_drew1 HB.out)
            clear HO_6 HO_7 HB
            have HO_6 := n0_
            have HO_7 := n1_
            have HB := n2_
            clear n0_ n1_ n2_
            obtain ⟨Ao22, co22, eo22⟩ := Kd.R_slice HO_7.out
            (first | subst eo22 | (injection eo22 with f1_ f2_ f3_; have f4_ := f1_.symm; have f5_ := f3_.symm; clear f1_ f2_ f3_; subst f4_; subst f5_))
            have p587 : 0 ≤ (x8_2 : Int) := of_decide_eq_true (by first | (with_reducible assumption) | assumption)
            have q587 : x8_2 < (x7_2.length : Int) := of_decide_eq_true (by first | (with_reducible assumption) | assumption)
            obtain ⟨ad587, e587, hx587_0, hx587_1⟩ := at_T27 (Kd.R_reads' HO_7.out).2.2 x8_2 p587 q587
            cases e587
            replace p587 := eq_true p587
            replace q587 := eq_true q587
            have p588 : 0 ≤ (x8_2 : Int) := of_decide_eq_true (by first | (with_reducible assumption) | assumption)
            have q588 : x8_2 < (x7_2.length : Int) := of_decide_eq_true (by first | (with_reducible assumption) | assumption)
            obtain ⟨ad588, e588, hx588_0, hx588_1⟩ := at_T27 (Kd.R_reads' HO_7.out).2.2 x8_2 p588 q588
            obtain rfl : ad587 = ad588 := (by injection e588)
            replace p588 := eq_true p588
            replace q588 := eq_true q588
            refine start_ (n := 12) (S := fun w' => w'.cell? (ad587.add ((x8_2).toNat * 2)) = some (.int .i64 ((rd_T27 x7_2 x8_2).f0)) ∧ w'.cell? ⟨(ad587.add ((x8_2).toNat * 2)).block, (ad587.add ((x8_2).toNat * 2)).off + 1, none⟩ = some (.int .i64 ((rd_T27 x7_2 x8_2).f1)) ∧ w'.cell? (ad587.add ((x8_2).toNat * 2)) = some (.int .i64 ((rd_T27 x7_2 x8_2).f0)) ∧ w'.cell? ⟨(ad587.add ((x8_2).toNat * 2)).block, (ad587.add ((x8_2).toNat * 2)).off + 1, none⟩ = some (.int .i64 ((rd_T27 x7_2 x8_2).f1))) (ds := []) #[false, false, false, false, false, false, false, false, false, false, false, false] (by kernel_rfl) rfl rfl ⟨hx587_0, hx587_1, hx588_0, hx588_1⟩ (fun hHeld => ?_); refine with_tabW swashplateref01_Minus.tab10 swashplateref01_Minus.bits10 (fun HT_ HW_ => ?_)
            generalize wr.drew = w21 at HO_6 HO_7 HB hx587_0 hx587_1 hx588_0 hx588_1 hHeld ⊢
            refine pure_ (i := 0) (N := some 35) (v := ?_) (a' := ?_) #[true, false, false, false, false, false, false, false, false, false, false, false] rfl rfl (any_of HT_.out (by kernel_rfl)) (fun _ _ _ h => h) (Or.inl ⟨by rfl, ?_⟩) ?_ ?_
            rotate_left
            ·
             intro w'
             go_simp
             with_reducible rfl
            rotate_left
            ·
             simp only [Act.put, List.setIfInBounds_toArray, List.set_cons_zero, List.set_cons_succ, i64_w, i32_w]
             rfl
            refine pure_ (i := 1) (N := some 36) (v := ?_) (a' := ?_) #[true, true, false, false, false, false, false, false, false, false, false, false] rfl rfl (any_of HT_.out (by kernel_rfl)) (fun _ _ _ h => h) (Or.inl ⟨by rfl, ?_⟩) ?_ ?_
            rotate_left
            ·
             intro w'
             go_simp
             with_reducible rfl
            rotate_left
            ·
             simp only [Act.put, List.setIfInBounds_toArray, List.set_cons_zero, List.set_cons_succ, i64_w, i32_w]
             rfl
            refine pure_ (i := 2) (N := some 37) (v := ?_) (a' := ?_) #[true, true, true, false, false, false, false, false, false, false, false, false] rfl rfl (any_of HT_.out (by kernel_rfl)) (fun _ _ _ h => h) (Or.inl ⟨by rfl, ?_⟩) ?_ ?_
            rotate_left
            ·
             intro w'
             go_simp
             with_reducible rfl
            rotate_left
            ·
             simp only [Act.put, List.setIfInBounds_toArray, List.set_cons_zero, List.set_cons_succ, i64_w, i32_w]
             rfl
            refine pure_ (i := 3) (N := some 38) (v := ?_) (a' := ?_) #[true, true, true, true, false, false, false, false, false, false, false, false] rfl rfl (any_of HT_.out (by kernel_rfl)) (fun _ _ _ h => h) (Or.inl ⟨by rfl, ?_⟩) ?_ ?_
            rotate_left
            ·
             intro w'
             go_simp
             with_reducible rfl
            rotate_left
            ·
             simp only [Act.put, List.setIfInBounds_toArray, List.set_cons_zero, List.set_cons_succ, i64_w, i32_w]
             rfl
            refine pure_ (i := 5) (N := some 40) (v := ?_) (a' := ?_) #[true, true, true, true, false, true, false, false, false, false, false, false] rfl rfl (any_of HT_.out (by kernel_rfl)) (fun _ _ _ h => h) (Or.inl ⟨by rfl, ?_⟩) ?_ ?_
            rotate_left
            ·
             intro w'
             go_simp
             with_reducible rfl
            rotate_left
            ·
             simp only [Act.put, List.setIfInBounds_toArray, List.set_cons_zero, List.set_cons_succ, i64_w, i32_w]
             rfl
            refine pure_ (i := 6) (N := some 41) (v := ?_) (a' := ?_) #[true, true, true, true, false, true, true, false, false, false, false, false] rfl rfl (any_of HT_.out (by kernel_rfl)) (fun _ _ _ h => h) (Or.inl ⟨by rfl, ?_⟩) ?_ ?_
            rotate_left
            ·
             intro w'
             go_simp
             with_reducible rfl
            rotate_left
            ·
             simp only [Act.put, List.setIfInBounds_toArray, List.set_cons_zero, List.set_cons_succ, i64_w, i32_w]
             rfl
            refine pure_ (i := 7) (N := some 42) (v := ?_) (a' := ?_) #[true, true, true, true, false, true, true, true, false, false, false, false] rfl rfl (any_of HT_.out (by kernel_rfl)) (fun _ _ _ h => h) (Or.inl ⟨by rfl, ?_⟩) ?_ ?_
            rotate_left
            ·
             intro w'
             go_simp
             with_reducible rfl
            rotate_left
            ·
             simp only [Act.put, List.setIfInBounds_toArray, List.set_cons_zero, List.set_cons_succ, i64_w, i32_w]
             rfl
            refine pure_ (i := 8) (N := some 43) (v := ?_) (a' := ?_) #[true, true, true, true, false, true, true, true, true, false, false, false] rfl rfl (any_of HT_.out (by kernel_rfl)) (fun _ _ _ h => h) (Or.inl ⟨by rfl, ?_⟩) ?_ ?_
            rotate_left
            ·
             intro w'
             go_simp
             with_reducible rfl
            rotate_left
            ·
             simp only [Act.put, List.setIfInBounds_toArray, List.set_cons_zero, List.set_cons_succ, i64_w, i32_w]
             rfl
            refine take_ (i := 4) (N := some 39) (v := ?_) (a' := ?_) #[true, true, true, true, true, true, true, true, true, false, false, false] rfl rfl (take_ofW HT_.out HW_.out (by kernel_rfl)) (fun _ _ _ h => h) (Or.inl ⟨by rfl, ?_⟩) hHeld ?_ ?_
            rotate_left
            ·
             rintro w' ⟨s0, s1, s2, s3⟩
             go_simp
             with_reducible rfl
            rotate_left
            ·
             simp only [Act.put, List.setIfInBounds_toArray, List.set_cons_zero, List.set_cons_succ, i64_w, i32_w]
             rfl
            refine pure_ (i := 10) (N := some 9) (v := ?_) (a' := ?_) #[true, true, true, true, true, true, true, true, true, false, true, false] rfl rfl (any_of HT_.out (by kernel_rfl)) (fun _ _ _ h => h) (Or.inl ⟨by rfl, ?_⟩) ?_ ?_
            rotate_left
            ·
             intro w'
             go_simp
             with_reducible rfl
            rotate_left
            ·
             simp only [Act.put, List.setIfInBounds_toArray, List.set_cons_zero, List.set_cons_succ, i64_w, i32_w]
             rfl
            refine take_ (i := 9) (N := some 44) (v := ?_) (a' := ?_) #[true, true, true, true, true, true, true, true, true, true, true, false] rfl rfl (take_ofW HT_.out HW_.out (by kernel_rfl)) (fun _ _ _ h => h) (Or.inl ⟨by rfl, ?_⟩) hHeld ?_ ?_
            rotate_left
            ·
             rintro w' ⟨s0, s1, s2, s3⟩
             go_simp
             with_reducible rfl
            rotate_left
            ·
             simp only [Act.put, List.setIfInBounds_toArray, List.set_cons_zero, List.set_cons_succ, i64_w, i32_w]
             rfl
            refine pure_ (i := 11) (N := some 10) (v := ?_) (a' := ?_) #[true, true, true, true, true, true, true, true, true, true, true, true] rfl rfl (any_of HT_.out (by kernel_rfl)) (fun _ _ _ h => h) (Or.inl ⟨by rfl, ?_⟩) ?_ ?_
            rotate_left
            ·
             intro w'
             go_simp
             with_reducible rfl
            rotate_left
            ·
             simp only [Act.put, List.setIfInBounds_toArray, List.set_cons_zero, List.set_cons_succ, i64_w, i32_w]
             rfl
            refine done_ (done_of HT_.out (by kernel_rfl)) ?_
            have p589 : 0 ≤ (x8_2 : Int) := of_decide_eq_true (by first | (with_reducible assumption) | assumption)
            have q589 : x8_2 < (l1.length : Int) := of_decide_eq_true (by first | (with_reducible assumption) | assumption)
            obtain ⟨ad589, e589, hx589_0, hx589_1⟩ := at_T27 HR1.out x8_2 p589 q589
            cases e589
            replace hx589_0 := (HB.out.cell (World.block_lt_of_cell? w _ hx589_0)).trans hx589_0
            replace hx589_1 := (HB.out.cell (World.block_lt_of_cell? w _ hx589_1)).trans hx589_1
            replace p589 := eq_true p589
            replace q589 := eq_true q589
            go_upto_if 51 with (fail)
            go_cut [6] (fun v6 wc => ∃ (kq : Nat) (x6_19 : List (List (S27))) (x7_19 : List (S27)), Aside0 (swashplateref01_Minus.j2 kq l0 l1 x6_19 x7_19 x8_2 ((rd_T27 x7_2 x8_2).f0) ((rd_T27 x7_2 x8_2).f1) = some (r1, r2)) ∧ Aside0 (kq ≤ k2) ∧ Aside0 (Kd.S (Kd.slice 27 k27) 38 wc w.heap.size (fun k_ => some k_ ≠ ((.slice (some ad587) x7_2.length co22) : Value).ownBlock) v6 x6_19) ∧ Aside0 (Kd.R k27 27 wc w.heap.size (fun _ => True) (.slice (some ad587) x7_2.length co22) x7_19) ∧ Aside0 (Below w.heap.size w wc))
            case first =>
             have H := HC20.out
             clear HC20
             by_cases c23 : ((rd_T27 x7_2 x8_2).f0) < ((rd_T27 l1 x8_2).f0)
             ·
              rw [if_pos c23] at H
              have c23b0 : decide (((rd_T27 x7_2 x8_2).f0) < ((rd_T27 l1 x8_2).f0)) = true := decide_eq_true c23
              clear c23
              (first | rw [c23b0] | (simp only [i64_w, i32_w]; rw [c23b0]) | skip)
              obtain ⟨y590, hy590⟩ : ∃ y_ : List (S27), y_ = (([] : List (S27))) := ⟨_, rfl⟩
              replace H : (if y590.length + x7_2.length < 8796093022208 then ((some (y590 ++ x7_2 : List (S27))).bind fun y593 => (if x8_2 < (y593.length : Int) then (if x6_2.length < 5864062014805 then (swashplateref01_Minus.j2 k2 l0 l1 (x6_2 ++ [(y593.set (x8_2 : Int).toNat (⟨(rd_T27 y593 x8_2).f0, mn ((rd_T27 x7_2 x8_2).f1) (wrap64 (((rd_T27 l1 x8_2).f0) - 1))⟩ : S27))]) x7_2 x8_2 ((rd_T27 x7_2 x8_2).f0) ((rd_T27 x7_2 x8_2).f1)) else (none)) else (none))) else (none)) = some (r1, r2) := by first | (rw [hy590]; with_reducible exact H) | (have H2_ := (Option.bind_some _ _).symm.trans H; rw [hy590]; with_reducible exact H2_) | (have H2_ := (Option.bind_some _ _).symm.trans H; with_reducible exact H2_) | with_reducible exact H | (rw [hy590]; exact H) | exact H
              have Ny590 := Aside0.mk hy590
              clear hy590
              by_cases c24 : y590.length + x7_2.length < 8796093022208
              ·
               rw [if_pos c24] at H
               have LMc24 := Aside0.mk c24
               clear c24
               obtain ⟨y593, hy593⟩ : ∃ y_ : List (S27), y_ = (y590 ++ x7_2) := ⟨_, rfl⟩
               replace H : (if x8_2 < (y593.length : Int) then (if x6_2.length < 5864062014805 then (swashplateref01_Minus.j2 k2 l0 l1 (x6_2 ++ [(y593.set (x8_2 : Int).toNat (⟨(rd_T27 y593 x8_2).f0, mn ((rd_T27 x7_2 x8_2).f1) (wrap64 (((rd_T27 l1 x8_2).f0) - 1))⟩ : S27))]) x7_2 x8_2 ((rd_T27 x7_2 x8_2).f0) ((rd_T27 x7_2 x8_2).f1)) else (none)) else (none)) = some (r1, r2) := by first | (rw [hy593]; with_reducible exact H) | (have H2_ := (Option.bind_some _ _).symm.trans H; rw [hy593]; with_reducible exact H2_) | (have H2_ := (Option.bind_some _ _).symm.trans H; with_reducible exact H2_) | with_reducible exact H | (rw [hy593]; exact H) | exact H
               have Ny593 := Aside0.mk hy593
               clear hy593
               obtain ⟨ji25, hji25⟩ : ∃ j_ : Int, (mn ((rd_T27 x7_2 x8_2).f1) (wrap64 (((rd_T27 l1 x8_2).f0) - 1))) = j_ := ⟨_, rfl⟩
               replace H : (if x8_2 < (y593.length : Int) then (if x6_2.length < 5864062014805 then (swashplateref01_Minus.j2 k2 l0 l1 (x6_2 ++ [(y593.set (x8_2 : Int).toNat (⟨(rd_T27 y593 x8_2).f0, ji25⟩ : S27))]) x7_2 x8_2 ((rd_T27 x7_2 x8_2).f0) ((rd_T27 x7_2 x8_2).f1)) else (none)) else (none)) = some (r1, r2) := by first | (rw [hji25] at H; exact H) | (simp only [hji25] at H ⊢; exact H)
               have hji25_ : (if (wrap64 (((rd_T27 l1 x8_2).f0) - 1)) < ((rd_T27 x7_2 x8_2).f1) then (wrap64 (((rd_T27 l1 x8_2).f0) - 1)) else ((rd_T27 x7_2 x8_2).f1)) = ji25 := hji25
               by_cases c26 : x8_2 < (y593.length : Int)
               ·
                rw [if_pos c26] at H
                have c26b0 : decide (x8_2 < (y593.length : Int)) = true := decide_eq_true c26
                clear c26
                obtain ⟨y597, hy597⟩ : ∃ y_ : List (S27), y_ = (y593.set (x8_2 : Int).toNat (⟨(rd_T27 y593 x8_2).f0, ji25⟩ : S27)) := ⟨_, rfl⟩
                replace H : (if x6_2.length < 5864062014805 then (swashplateref01_Minus.j2 k2 l0 l1 (x6_2 ++ [y597]) x7_2 x8_2 ((rd_T27 x7_2 x8_2).f0) ((rd_T27 x7_2 x8_2).f1)) else (none)) = some (r1, r2) := by first | (rw [hy597]; with_reducible exact H) | (have H2_ := (Option.bind_some _ _).symm.trans H; rw [hy597]; with_reducible exact H2_) | (have H2_ := (Option.bind_some _ _).symm.trans H; with_reducible exact H2_) | with_reducible exact H | (rw [hy597]; exact H) | exact H
                have Ny597 := Aside0.mk hy597
                clear hy597
                by_cases c28 : x6_2.length < 5864062014805
                ·
                 rw [if_pos c28] at H
                 have LMc28 := Aside0.mk c28
                 clear c28
                 obtain ⟨y598, hy598⟩ : ∃ y_ : List (List (S27)), y_ = (x6_2 ++ [y597]) := ⟨_, rfl⟩
                 replace H : (swashplateref01_Minus.j2 k2 l0 l1 y598 x7_2 x8_2 ((rd_T27 x7_2 x8_2).f0) ((rd_T27 x7_2 x8_2).f1)) = some (r1, r2) := by first | (rw [hy598]; with_reducible exact H) | (have H2_ := (Option.bind_some _ _).symm.trans H; rw [hy598]; with_reducible exact H2_) | (have H2_ := (Option.bind_some _ _).symm.trans H; with_reducible exact H2_) | with_reducible exact H | (rw [hy598]; exact H) | exact H
                 have Ny598 := Aside0.mk hy598
                 clear hy598
                 have H' := Aside0.mk H
                 clear H
                 go_wp2_with (first | ((with_reducible refine gate_dst (N := 52) rfl ?_); refine Kd.R_lit k27 _ 27 ?hg (N := 52) ?hd (xs := ([] : List (S27))) (inner := []) (ok := fun _ => True) (okp := fun _ => True) ?hr ?hp (fun _ hk => hk) trivial (Below.refl _ _) (Nat.le_refl _) (by simp) ?_; (case hd => rfl); (case hg => rfl); (case hr => first | (go_simp; done) | (go_simp; rfl)); (case hp => exact (Reps.none _ _)); intro v591 w29 ho30 hb hg_ hnew_; clear hg_ hnew_; (first | rw [← Ny590.out] at ho30 | (simp only [Int.reduceToNat] at ho30; rw [← Ny590.out] at ho30)); have n0_ := Aside0.mk (Kd.S_elder' (by (with_reducible repeat (first | apply Kd.S_alloc | apply Kd.S_drewN | apply Kd.S_drew)); exact HO_6.out) (Kd.R_base ho30) hb); have n1_ := Aside0.mk (Kd.R_elder' (by (with_reducible repeat (first | apply Kd.R_alloc | apply Kd.R_drewN | apply Kd.R_drew)); exact HO_7.out) (Kd.R_base ho30) hb); have n2_ := Aside0.mk (Kd.R_lower (Kd.R_new' ho30 (Kd.R_lt (by (with_reducible repeat (first | apply Kd.R_alloc | apply Kd.R_drewN | apply Kd.R_drew)); exact HO_7.out))) (below_size (bl_ HB.out))); have n3_ := Aside0.mk (below_step (bl_ HB.out) hb); clear HO_6 HO_7 HB; have HO_6 := n0_; have HO_7 := n1_; have HO592 := n2_; have HB := n3_; clear n0_ n1_ n2_ n3_ hb ho30) | ((with_reducible refine gate_builtin (b := .append) (xs := #[.tmp 52, .tmp 53]) rfl ?_); at_builtin; refine Kd.R_append_rows k27 (w0 := w) w.heap.size rfl (.tmp 52) (.tmp 53) 38 27 (.agg #[(.int .i64 0), (.int .i64 0)]) 16 rfl Try.underlying38 info27 rfl (by decide) (by omega) v591 y590 x7_2 _ _ _ (fun k_ => some k_ ≠ (.slice (some ad587) x7_2.length co22 : Value).ownBlock) (fun _ => False) rfl rfl ?aO ?aR (fun _ _ h => h) (fun _ h => h.elim) ?aF ?aB ?aS ?aL ?_; (case aR => exact cr_ (Kd.R_reads' HO_7.out).2.2); (case aB => exact (bl_ HB.out)); (case aF => exact (fun k_ hk => Kd.fresh' (Kd.R_lt (by (with_reducible repeat (first | apply Kd.R_alloc | apply Kd.R_drewN | apply Kd.R_drew)); exact HO_7.out)) k_ hk)); (case aO => exact (by (with_reducible repeat (first | apply Kd.R_alloc | apply Kd.R_drewN | apply Kd.R_drew)); exact Kd.R_mono HO592.out (fun _ hk => hk.2))); (case aS => exact (below_size (bl_ HB.out))); (case aL => have := LMc24.out; omega); intro v594 w31 ho hb hg hat; rw [← Ny593.out] at ho; have n0_ := Aside0.mk (Kd.S_after (ok := (fun k_ => some k_ ≠ (.slice (some ad587) x7_2.length co22 : Value).ownBlock)) (by (with_reducible repeat (first | apply Kd.S_alloc | apply Kd.S_drewN | apply Kd.S_drew)); exact HO_6.out) hg hat); have n1_ := Aside0.mk (Kd.R_after (ok := (fun _ => True)) (by (with_reducible repeat (first | apply Kd.R_alloc | apply Kd.R_drewN | apply Kd.R_drew)); exact HO_7.out) hg hat); have n2_ := Aside0.mk (hb); have n3_ := Aside0.mk (ho); clear HO_6 HO_7 HB HO592; have HO_6 := n0_; have HO_7 := n1_; have HB := n2_; have HO595 := n3_; clear n0_ n1_ n2_ n3_ ho hb hg hat; have p596 : 0 ≤ (x8_2 : Int) := of_decide_eq_true (by first | (with_reducible assumption) | assumption); have q596 : x8_2 < (l1.length : Int) := of_decide_eq_true (by first | (with_reducible assumption) | assumption); obtain ⟨ad596, e596, hx596_0, hx596_1⟩ := at_T27 HR1.out x8_2 p596 q596; obtain rfl : ad589 = ad596 := (by injection e596); replace hx596_0 := (HB.out.cell (World.block_lt_of_cell? w _ hx596_0)).trans hx596_0; replace hx596_1 := (HB.out.cell (World.block_lt_of_cell? w _ hx596_1)).trans hx596_1; replace p596 := eq_true p596; replace q596 := eq_true q596; have p27 : 0 ≤ (x8_2 : Int) := of_decide_eq_true (by first | (with_reducible assumption) | assumption); have q27 : (x8_2 : Int) < ((y593.length : Int) : Int) := of_decide_eq_true (by first | (with_reducible assumption) | assumption); obtain ⟨go27, co27, eo27, gb27, gl27, cl27, HG27⟩ := Kd.R_form HO595.out (by omega); (first | cases eo27 | (injection eo27 with ea_ en_ ec_; (first | subst ea_ | (injection ea_ with ea_; subst ea_)); subst ec_; clear en_)); have GB27 := Aside0.mk gb27; have GG27 := Aside0.mk HG27; clear gb27 gl27 HG27; obtain ⟨ce27, hcl27, hM27, hcc27, hfr27⟩ := Kd.R_elem HO595.out z27 (x8_2 : Int) p27 q27; obtain rfl := k27_openM hM27; have hx27_0 : w31.cell? ⟨go27, (x8_2 : Int).toNat * 2, none⟩ = some (.int .i64 ((rd_T27 y593 x8_2).f0)) := hcc27 0 _ rfl; have hx27_1 : w31.cell? ⟨go27, (x8_2 : Int).toNat * 2 + 1, none⟩ = some (.int .i64 ((rd_T27 y593 x8_2).f1)) := hcc27 1 _ rfl; have hf27_0 : w31.frozen? ⟨go27, (x8_2 : Int).toNat * 2, none⟩ = false := hfr27 0; have hf27_1 : w31.frozen? ⟨go27, (x8_2 : Int).toNat * 2 + 1, none⟩ = false := hfr27 1; clear hcl27 hcc27 hfr27 hM27; replace p27 := eq_true p27; replace q27 := eq_true q27; have HX32 := Aside0.mk (show Kd.R k27 27 w31 w.heap.size (fun k_ => some k_ ≠ (.slice (some ad587) x7_2.length co22 : Value).ownBlock) (.slice (some ⟨go27, 0, none⟩) y593.length co27) y593 from (by (with_reducible repeat (first | apply Kd.R_alloc | apply Kd.R_drewN | apply Kd.R_drew)); exact HO595.out)); obtain ⟨ce32, hcl32, hM32, hcc32, hfr32⟩ := Kd.R_elem HX32.out z27 (x8_2 : Int) (of_decide_eq_true (by first | (with_reducible assumption) | assumption)) (by have h_ : (x8_2 : Int) < ((y593.length : Int) : Int) := of_decide_eq_true (by first | (with_reducible assumption) | assumption); first | exact h_ | (have e_ := (Kd.R_reads' HO595.out).1; omega) | simpa using h_); obtain rfl := k27_openM hM32; have HP32 := Kd.R_seg HX32.out (x8_2 : Int) (of_decide_eq_true (by first | (with_reducible assumption) | assumption)) (by have h_ : (x8_2 : Int) < ((y593.length : Int) : Int) := of_decide_eq_true (by first | (with_reducible assumption) | assumption); first | exact h_ | (have e_ := (Kd.R_reads' HO595.out).1; omega) | simpa using h_) (seg := [.int .i64 ji25]) (j := 1) hcl32 hcc32 (show 2 ≤ 2 from by decide) (x' := (⟨(rd_T27 y593 x8_2).f0, ji25⟩ : S27)) (k27_mkM _ _ _ (⟨(rd_T27 y593 x8_2).f0, ji25⟩ : S27) ) (fun _ hk => hk); have hx32_1 := hcc32 1 _ rfl; (try simp only [show (k27).sz = 2 from rfl, Nat.mul_one, Nat.add_zero] at hx32_1); have hf32_1 := hfr32 1; (try simp only [show (k27).sz = 2 from rfl, Nat.mul_one, Nat.add_zero] at hf32_1); clear hcl32 hcc32 hfr32 hM32) | ((with_reducible refine gate_store (t := 3) (p := 66) rfl ?_); refine store_event (t := 3) (p := 66) (v := ?vo_w33) (w1 := (w31.setCell ⟨go27, (x8_2 : Int).toNat * 2 + 1, none⟩ (.int .i64 ji25))) ?hg ?ho ?hn ?hr ?_; (case ho => rfl); (case hg => rfl); (case hn => rfl); (case hr => first | (go_simp; done) | (go_simp; rfl)); intro w33 hw; have hg : w31.grownBy w33 (some go27) := (by rw [hw]; exact HP32.2); have hp_ : Kd.R k27 27 w33 w.heap.size (fun k_ => some k_ ≠ (.slice (some ad587) x7_2.length co22 : Value).ownBlock) (.slice (some ⟨go27, 0, none⟩) y593.length co27) y597 := (by rw [hw, Ny597.out]; exact HP32.1); clear HP32; have n0_ := Aside0.mk (Kd.S_after (v := (.slice (some ⟨go27, 0, none⟩) y593.length co27)) (v1 := (.slice (some ⟨go27, 0, none⟩) y593.length co27)) (ok := (fun k_ => some k_ ≠ (.slice (some ad587) x7_2.length co22 : Value).ownBlock)) (by (with_reducible repeat (first | apply Kd.S_alloc | apply Kd.S_drewN | apply Kd.S_drew)); exact HO_6.out) hg (.inl rfl)); have n1_ := Aside0.mk (Kd.R_after (v := (.slice (some ⟨go27, 0, none⟩) y593.length co27)) (v1 := (.slice (some ⟨go27, 0, none⟩) y593.length co27)) (ok := (fun _ => True)) (by (with_reducible repeat (first | apply Kd.R_alloc | apply Kd.R_drewN | apply Kd.R_drew)); exact HO_7.out) hg (.inl rfl)); have n2_ := Aside0.mk (hp_); have n3_ := Aside0.mk ((by rw [hw]; exact below_set (HB.out) GB27.out : Below w.heap.size w w33)); clear HO_6 HO_7 HO595 HB; have HO_6 := n0_; have HO_7 := n1_; have HO595 := n2_; have HB := n3_; clear n0_ n1_ n2_ n3_ hg hw hp_) | ((with_reducible refine gate_builtin (b := .append) (xs := #[.tmp 67, .tmp 69]) rfl ?_); at_builtin; refine Kd.S_append (Kd.slice 27 k27) (w0 := w) w.heap.size rfl (.tmp 67) (.tmp 69) 95 38 (.slice none 0 0) 24 rfl Try.underlying95 info38 rfl (by decide) (by omega) u6 x6_2 y597 [.slice (some ⟨go27, 0, none⟩) y593.length co27] (fun k_ => some k_ ≠ (.slice (some ad587) x7_2.length co22 : Value).ownBlock) (fun k_ => some k_ = (.slice (some ⟨go27, 0, none⟩) y593.length co27 : Value).ownBlock) rfl rfl ?aP (fun k_ hk_ => ((Kd.R_mono (ok' := fun k_ => ((fun k_ => some k_ ≠ (.slice (some ad587) x7_2.length co22 : Value).ownBlock)) k_ ∧ some k_ ≠ (u6 : Value).ownBlock) (Kd.R_apart' (HO595.out) (Kd.S_typed HO_6.out) (by decide)) (fun k_ hk => ⟨hk.1, hk.2⟩))).1 k_ hk_.symm) ?aF ?aO ?aB ?aS ?aL ?_; (case aP => exact Kd.M_row (Kd.R_mono (Kd.R_tight rfl (Kd.R_mono (ok' := fun k_ => ((fun k_ => some k_ ≠ (.slice (some ad587) x7_2.length co22 : Value).ownBlock)) k_ ∧ some k_ ≠ (u6 : Value).ownBlock) (Kd.R_apart' (HO595.out) (Kd.S_typed HO_6.out) (by decide)) (fun k_ hk => ⟨hk.1, hk.2⟩))) (fun _ h_ => h_))); (case aB => exact (bl_ HB.out)); (case aF => exact (fun k_ hk => Kd.fresh' (Kd.R_lt (by (with_reducible repeat (first | apply Kd.R_alloc | apply Kd.R_drewN | apply Kd.R_drew)); exact HO_7.out)) k_ hk)); (case aO => exact (by (with_reducible repeat (first | apply Kd.S_alloc | apply Kd.S_drewN | apply Kd.S_drew)); exact Kd.S_mono HO_6.out (fun k_ hk => ⟨hk.1, fun e_ => hk.2 e_⟩))); (case aS => exact (below_size (bl_ HB.out))); (case aL => have := LMc28.out; omega); intro v599 w34 ho hb hg hat; rw [← Ny598.out] at ho; have n0_ := Aside0.mk (Kd.R_over' (by (with_reducible repeat (first | apply Kd.R_alloc | apply Kd.R_drewN | apply Kd.R_drew)); exact HO_7.out) (Kd.S_typed (by (with_reducible repeat (first | apply Kd.S_alloc | apply Kd.S_drewN | apply Kd.S_drew)); exact HO_6.out)) (by decide) hg); have n1_ := Aside0.mk (hb); have n2_ := Aside0.mk (ho); clear HO_7 HB HO_6 HO595; have HO_7 := n0_; have HB := n1_; have HO600 := n2_; clear n0_ n1_ n2_ ho hb hg hat))
                 go_meet
                 case rel => exact ⟨_, (y598), (x7_2), H', ⟨by have := HJ2.out; have := HK2.out; first | omega | exact Nat.le_refl _⟩, ⟨by (with_reducible repeat (first | apply Kd.S_alloc | apply Kd.S_drewN | apply Kd.S_drew)); exact HO600.out⟩, ⟨by (with_reducible repeat (first | apply Kd.R_alloc | apply Kd.R_drewN | apply Kd.R_drew)); exact Kd.R_mono HO_7.out (fun _ hk => trivial)⟩, ⟨bl_ HB.out⟩⟩
                ·
                 rw [if_neg c28] at H
                 exact absurd H (by simp)
               ·
                rw [if_neg c26] at H
                exact absurd H (by simp)
              ·
               rw [if_neg c24] at H
               exact absurd H (by simp)
             ·
              rw [if_neg c23] at H
              have c23b0 : decide (((rd_T27 x7_2 x8_2).f0) < ((rd_T27 l1 x8_2).f0)) = false := decide_eq_false c23
              clear c23
              (first | rw [c23b0] | (simp only [i64_w, i32_w]; rw [c23b0]) | skip)
              have H' := Aside0.mk H
              clear H
              go_wp2
              go_meet
              case rel => exact ⟨_, (x6_2), (x7_2), H', ⟨by have := HJ2.out; have := HK2.out; first | omega | exact Nat.le_refl _⟩, ⟨by (with_reducible repeat (first | apply Kd.S_alloc | apply Kd.S_drewN | apply Kd.S_drew)); exact HO_6.out⟩, ⟨by (with_reducible repeat (first | apply Kd.R_alloc | apply Kd.R_drewN | apply Kd.R_drew)); exact HO_7.out⟩, ⟨bl_ HB.out⟩⟩
            case rest =>
             clear HC20
             try clear c1
             try clear c2
             try clear p2
             try clear q2
             try clear hx2
             try clear hf2
             try clear c3
             try clear hx3
             try clear hf3
             try clear c5
             try clear c5b0
             try clear c5b1
             try clear p5
             try clear q5
             try clear hx5
             try clear c6
             try clear p6
             try clear c10
             try clear c11
             try clear c11b0
             try clear c11b1
             try clear c11b2
             try clear c12
             try clear c16
             try clear c16b0
             try clear c17
             try clear c17b0
             try clear c18
             try clear c18b0
             try clear c19
             try clear c19b0
             try clear c23
             try clear c23b0
             try clear c24
             try clear c26
             try clear c26b0
             try clear c27
             try clear p27
             try clear q27
             try clear hx27
             try clear hf27
             try clear c28
             try clear c32
             try clear hx32
             try clear hf32
             try clear hx27_0
             try clear hx27_1
             try clear hx32_1
             try clear hx587_0
             try clear hx587_1
             try clear hx588_0
             try clear hx588_1
             try clear hx589_0
             try clear hx589_1
             try clear hx596_0
             try clear hx596_1
             try clear p2
             try clear p27
             try clear p587
             try clear p588
             try clear p589
             try clear p596
             try clear q27
             try clear q587
             try clear q588
             try clear q589
             try clear q596
             obtain ⟨kq, x6_19, x7_19, HA, HJ19, HO_6, HO_7, HB⟩ := hcut
             have hl7_19 := (Kd.R_reads' HO_7.out).1
             rw [hl7_19] at HO_7
             (try simp only [hl7_19])
             (try simp only [hl7_19] at HO_6)
             cases kq with
             | zero => exact absurd HA.out (by simp [swashplateref01_Minus.j2])
             | succ kj19 =>
              have H := HA.out
              clear HA
              simp only [swashplateref01_Minus.j2] at H
              by_cases c35 : 0 ≤ x8_2
              ·
               rw [if_pos c35] at H
               have c35b0 : decide (0 ≤ x8_2) = true := decide_eq_true c35
               clear c35
               by_cases c36 : x8_2 < (l1.length : Int)
               ·
                rw [if_pos c36] at H
                have c36b0 : decide (x8_2 < (l1.length : Int)) = true := decide_eq_true c36
                clear c36
                by_cases c37 : ((rd_T27 x7_2 x8_2).f1) > ((rd_T27 l1 x8_2).f1)
                ·
                 rw [if_pos c37] at H
                 have c37b0 : decide (((rd_T27 l1 x8_2).f1) < ((rd_T27 x7_2 x8_2).f1)) = true := decide_eq_true c37
                 clear c37
                 obtain ⟨y602, hy602⟩ : ∃ y_ : List (S27), y_ = (([] : List (S27))) := ⟨_, rfl⟩
                 replace H : (if y602.length + x7_19.length < 8796093022208 then ((some (y602 ++ x7_19 : List (S27))).bind fun y605 => (if x8_2 < (y605.length : Int) then (if x6_19.length < 5864062014805 then ((some (x6_19 ++ [(y605.set (x8_2 : Int).toNat (⟨mx ((rd_T27 x7_2 x8_2).f0) (wrap64 (((rd_T27 l1 x8_2).f1) + 1)), (rd_T27 y605 x8_2).f1⟩ : S27))] : List (List (S27)))).bind fun y610 => (if x8_2 < (x7_19.length : Int) then ((some (x7_19.set (x8_2 : Int).toNat (⟨mx ((rd_T27 x7_2 x8_2).f0) ((rd_T27 l1 x8_2).f0), mn ((rd_T27 x7_2 x8_2).f1) ((rd_T27 l1 x8_2).f1)⟩ : S27) : List (S27))).bind fun y615 => (if ((rd_T27 y615 x8_2).f0) > ((rd_T27 y615 x8_2).f1) then (some (y610, 0)) else (swashplateref01_Minus.l0 kj19 l0 l1 y610 y615 (wrap64 (x8_2 + 1))))) else (none))) else (none)) else (none))) else (none)) = some (r1, r2) := by first | (rw [hy602]; with_reducible exact H) | (have H2_ := (Option.bind_some _ _).symm.trans H; rw [hy602]; with_reducible exact H2_) | (have H2_ := (Option.bind_some _ _).symm.trans H; with_reducible exact H2_) | with_reducible exact H | (rw [hy602]; exact H) | exact H
                 have Ny602 := Aside0.mk hy602
                 clear hy602
                 by_cases c38 : y602.length + x7_19.length < 8796093022208
                 ·
                  rw [if_pos c38] at H
                  have LMc38 := Aside0.mk c38
                  clear c38
                  obtain ⟨y605, hy605⟩ : ∃ y_ : List (S27), y_ = (y602 ++ x7_19) := ⟨_, rfl⟩
                  replace H : (if x8_2 < (y605.length : Int) then (if x6_19.length < 5864062014805 then ((some (x6_19 ++ [(y605.set (x8_2 : Int).toNat (⟨mx ((rd_T27 x7_2 x8_2).f0) (wrap64 (((rd_T27 l1 x8_2).f1) + 1)), (rd_T27 y605 x8_2).f1⟩ : S27))] : List (List (S27)))).bind fun y610 => (if x8_2 < (x7_19.length : Int) then ((some (x7_19.set (x8_2 : Int).toNat (⟨mx ((rd_T27 x7_2 x8_2).f0) ((rd_T27 l1 x8_2).f0), mn ((rd_T27 x7_2 x8_2).f1) ((rd_T27 l1 x8_2).f1)⟩ : S27) : List (S27))).bind fun y615 => (if ((rd_T27 y615 x8_2).f0) > ((rd_T27 y615 x8_2).f1) then (some (y610, 0)) else (swashplateref01_Minus.l0 kj19 l0 l1 y610 y615 (wrap64 (x8_2 + 1))))) else (none))) else (none)) else (none)) = some (r1, r2) := by first | (rw [hy605]; with_reducible exact H) | (have H2_ := (Option.bind_some _ _).symm.trans H; rw [hy605]; with_reducible exact H2_) | (have H2_ := (Option.bind_some _ _).symm.trans H; with_reducible exact H2_) | with_reducible exact H | (rw [hy605]; exact H) | exact H
                  have Ny605 := Aside0.mk hy605
                  clear hy605
                  obtain ⟨ji39, hji39⟩ : ∃ j_ : Int, (mx ((rd_T27 x7_2 x8_2).f0) (wrap64 (((rd_T27 l1 x8_2).f1) + 1))) = j_ := ⟨_, rfl⟩
                  replace H : (if x8_2 < (y605.length : Int) then (if x6_19.length < 5864062014805 then ((some (x6_19 ++ [(y605.set (x8_2 : Int).toNat (⟨ji39, (rd_T27 y605 x8_2).f1⟩ : S27))] : List (List (S27)))).bind fun y610 => (if x8_2 < (x7_19.length : Int) then ((some (x7_19.set (x8_2 : Int).toNat (⟨mx ((rd_T27 x7_2 x8_2).f0) ((rd_T27 l1 x8_2).f0), mn ((rd_T27 x7_2 x8_2).f1) ((rd_T27 l1 x8_2).f1)⟩ : S27) : List (S27))).bind fun y615 => (if ((rd_T27 y615 x8_2).f0) > ((rd_T27 y615 x8_2).f1) then (some (y610, 0)) else (swashplateref01_Minus.l0 kj19 l0 l1 y610 y615 (wrap64 (x8_2 + 1))))) else (none))) else (none)) else (none)) = some (r1, r2) := by first | (rw [hji39] at H; exact H) | (simp only [hji39] at H ⊢; exact H)
                  have hji39_ : (if ((rd_T27 x7_2 x8_2).f0) < (wrap64 (((rd_T27 l1 x8_2).f1) + 1)) then (wrap64 (((rd_T27 l1 x8_2).f1) + 1)) else ((rd_T27 x7_2 x8_2).f0)) = ji39 := hji39
                  by_cases c40 : x8_2 < (y605.length : Int)
                  ·
                   rw [if_pos c40] at H
                   have c40b0 : decide (x8_2 < (y605.length : Int)) = true := decide_eq_true c40
                   clear c40
                   obtain ⟨y609, hy609⟩ : ∃ y_ : List (S27), y_ = (y605.set (x8_2 : Int).toNat (⟨ji39, (rd_T27 y605 x8_2).f1⟩ : S27)) := ⟨_, rfl⟩
                   replace H : (if x6_19.length < 5864062014805 then ((some (x6_19 ++ [y609] : List (List (S27)))).bind fun y610 => (if x8_2 < (x7_19.length : Int) then ((some (x7_19.set (x8_2 : Int).toNat (⟨mx ((rd_T27 x7_2 x8_2).f0) ((rd_T27 l1 x8_2).f0), mn ((rd_T27 x7_2 x8_2).f1) ((rd_T27 l1 x8_2).f1)⟩ : S27) : List (S27))).bind fun y615 => (if ((rd_T27 y615 x8_2).f0) > ((rd_T27 y615 x8_2).f1) then (some (y610, 0)) else (swashplateref01_Minus.l0 kj19 l0 l1 y610 y615 (wrap64 (x8_2 + 1))))) else (none))) else (none)) = some (r1, r2) := by first | (rw [hy609]; with_reducible exact H) | (have H2_ := (Option.bind_some _ _).symm.trans H; rw [hy609]; with_reducible exact H2_) | (have H2_ := (Option.bind_some _ _).symm.trans H; with_reducible exact H2_) | with_reducible exact H | (rw [hy609]; exact H) | exact H
                   have Ny609 := Aside0.mk hy609
                   clear hy609
                   by_cases c42 : x6_19.length < 5864062014805
                   ·
                    rw [if_pos c42] at H
                    have LMc42 := Aside0.mk c42
                    clear c42
                    obtain ⟨y610, hy610⟩ : ∃ y_ : List (List (S27)), y_ = (x6_19 ++ [y609]) := ⟨_, rfl⟩
                    replace H : (if x8_2 < (x7_19.length : Int) then ((some (x7_19.set (x8_2 : Int).toNat (⟨mx ((rd_T27 x7_2 x8_2).f0) ((rd_T27 l1 x8_2).f0), mn ((rd_T27 x7_2 x8_2).f1) ((rd_T27 l1 x8_2).f1)⟩ : S27) : List (S27))).bind fun y615 => (if ((rd_T27 y615 x8_2).f0) > ((rd_T27 y615 x8_2).f1) then (some (y610, 0)) else (swashplateref01_Minus.l0 kj19 l0 l1 y610 y615 (wrap64 (x8_2 + 1))))) else (none)) = some (r1, r2) := by first | (rw [hy610]; with_reducible exact H) | (have H2_ := (Option.bind_some _ _).symm.trans H; rw [hy610]; with_reducible exact H2_) | (have H2_ := (Option.bind_some _ _).symm.trans H; with_reducible exact H2_) | with_reducible exact H | (rw [hy610]; exact H) | exact H
                    have Ny610 := Aside0.mk hy610
                    clear hy610
                    obtain ⟨ji43, hji43⟩ : ∃ j_ : Int, (mx ((rd_T27 x7_2 x8_2).f0) ((rd_T27 l1 x8_2).f0)) = j_ := ⟨_, rfl⟩
                    replace H : (if x8_2 < (x7_19.length : Int) then ((some (x7_19.set (x8_2 : Int).toNat (⟨ji43, mn ((rd_T27 x7_2 x8_2).f1) ((rd_T27 l1 x8_2).f1)⟩ : S27) : List (S27))).bind fun y615 => (if ((rd_T27 y615 x8_2).f0) > ((rd_T27 y615 x8_2).f1) then (some (y610, 0)) else (swashplateref01_Minus.l0 kj19 l0 l1 y610 y615 (wrap64 (x8_2 + 1))))) else (none)) = some (r1, r2) := by first | (rw [hji43] at H; exact H) | (simp only [hji43] at H ⊢; exact H)
                    have hji43_ : (if ((rd_T27 x7_2 x8_2).f0) < ((rd_T27 l1 x8_2).f0) then ((rd_T27 l1 x8_2).f0) else ((rd_T27 x7_2 x8_2).f0)) = ji43 := hji43
                    obtain ⟨ji44, hji44⟩ : ∃ j_ : Int, (mn ((rd_T27 x7_2 x8_2).f1) ((rd_T27 l1 x8_2).f1)) = j_ := ⟨_, rfl⟩
                    replace H : (if x8_2 < (x7_19.length : Int) then ((some (x7_19.set (x8_2 : Int).toNat (⟨ji43, ji44⟩ : S27) : List (S27))).bind fun y615 => (if ((rd_T27 y615 x8_2).f0) > ((rd_T27 y615 x8_2).f1) then (some (y610, 0)) else (swashplateref01_Minus.l0 kj19 l0 l1 y610 y615 (wrap64 (x8_2 + 1))))) else (none)) = some (r1, r2) := by first | (rw [hji44] at H; exact H) | (simp only [hji44] at H ⊢; exact H)
                    have hji44_ : (if ((rd_T27 l1 x8_2).f1) < ((rd_T27 x7_2 x8_2).f1) then ((rd_T27 l1 x8_2).f1) else ((rd_T27 x7_2 x8_2).f1)) = ji44 := hji44
                    by_cases c45 : x8_2 < (x7_19.length : Int)
                    ·
                     rw [if_pos c45] at H
                     have c45b0 : decide (x8_2 < (x7_19.length : Int)) = true := decide_eq_true c45
                     clear c45
                     obtain ⟨y615, hy615⟩ : ∃ y_ : List (S27), y_ = (x7_19.set (x8_2 : Int).toNat (⟨ji43, ji44⟩ : S27)) := ⟨_, rfl⟩
                     replace H : (if ((rd_T27 y615 x8_2).f0) > ((rd_T27 y615 x8_2).f1) then (some (y610, 0)) else (swashplateref01_Minus.l0 kj19 l0 l1 y610 y615 (wrap64 (x8_2 + 1)))) = some (r1, r2) := by first | (rw [hy615]; with_reducible exact H) | (have H2_ := (Option.bind_some _ _).symm.trans H; rw [hy615]; with_reducible exact H2_) | (have H2_ := (Option.bind_some _ _).symm.trans H; with_reducible exact H2_) | with_reducible exact H | (rw [hy615]; exact H) | exact H
                     have Ny615 := Aside0.mk hy615
                     clear hy615
                     by_cases c47 : ((rd_T27 y615 x8_2).f0) > ((rd_T27 y615 x8_2).f1)
                     ·
                      rw [if_pos c47] at H
                      have c47b0 : decide (((rd_T27 y615 x8_2).f1) < ((rd_T27 y615 x8_2).f0)) = true := decide_eq_true c47
                      clear c47
                      simp only [Option.some.injEq, Prod.mk.injEq] at H
                      obtain ⟨rfl, rfl⟩ := H
                      have p601 : 0 ≤ (x8_2 : Int) := of_decide_eq_true (by first | (with_reducible assumption) | assumption)
                      have q601 : x8_2 < (l1.length : Int) := of_decide_eq_true (by first | (with_reducible assumption) | assumption)
                      obtain ⟨ad601, e601, hx601_0, hx601_1⟩ := at_T27 HR1.out x8_2 p601 q601
                      obtain rfl : ad589 = ad601 := (by injection e601)
                      replace hx601_0 := (HB.out.cell (World.block_lt_of_cell? w _ hx601_0)).trans hx601_0
                      replace hx601_1 := (HB.out.cell (World.block_lt_of_cell? w _ hx601_1)).trans hx601_1
                      replace p601 := eq_true p601
                      replace q601 := eq_true q601
                      try go_wp2_with (first | ((with_reducible refine gate_dst (N := 78) rfl ?_); refine Kd.R_lit k27 _ 27 ?hg (N := 78) ?hd (xs := ([] : List (S27))) (inner := []) (ok := fun _ => True) (okp := fun _ => True) ?hr ?hp (fun _ hk => hk) trivial (Below.refl _ _) (Nat.le_refl _) (by simp) ?_; (case hd => rfl); (case hg => rfl); (case hr => first | (go_simp; done) | (go_simp; rfl)); (case hp => exact (Reps.none _ _)); intro v603 w48 ho49 hb hg_ hnew_; clear hg_ hnew_; (first | rw [← Ny602.out] at ho49 | (simp only [Int.reduceToNat] at ho49; rw [← Ny602.out] at ho49)); have n0_ := Aside0.mk (Kd.S_elder' (by (with_reducible repeat (first | apply Kd.S_alloc | apply Kd.S_drewN | apply Kd.S_drew)); exact HO_6.out) (Kd.R_base ho49) hb); have n1_ := Aside0.mk (Kd.R_elder' (by (with_reducible repeat (first | apply Kd.R_alloc | apply Kd.R_drewN | apply Kd.R_drew)); exact HO_7.out) (Kd.R_base ho49) hb); have n2_ := Aside0.mk (Kd.R_lower (Kd.R_new' ho49 (Kd.R_lt (by (with_reducible repeat (first | apply Kd.R_alloc | apply Kd.R_drewN | apply Kd.R_drew)); exact HO_7.out))) (below_size (bl_ HB.out))); have n3_ := Aside0.mk (below_step (bl_ HB.out) hb); clear HO_6 HO_7 HB; have HO_6 := n0_; have HO_7 := n1_; have HO604 := n2_; have HB := n3_; clear n0_ n1_ n2_ n3_ hb ho49) | ((with_reducible refine gate_builtin (b := .append) (xs := #[.tmp 78, .tmp 79]) rfl ?_); at_builtin; refine Kd.R_append_rows k27 (w0 := w) w.heap.size rfl (.tmp 78) (.tmp 79) 38 27 (.agg #[(.int .i64 0), (.int .i64 0)]) 16 rfl Try.underlying38 info27 rfl (by decide) (by omega) v603 y602 x7_19 _ _ _ (fun k_ => some k_ ≠ (.slice (some ad587) x7_19.length co22 : Value).ownBlock) (fun _ => False) rfl rfl ?aO ?aR (fun _ _ h => h) (fun _ h => h.elim) ?aF ?aB ?aS ?aL ?_; (case aR => exact cr_ (Kd.R_reads' HO_7.out).2.2); (case aB => exact (bl_ HB.out)); (case aF => exact (fun k_ hk => Kd.fresh' (Kd.R_lt (by (with_reducible repeat (first | apply Kd.R_alloc | apply Kd.R_drewN | apply Kd.R_drew)); exact HO_7.out)) k_ hk)); (case aO => exact (by (with_reducible repeat (first | apply Kd.R_alloc | apply Kd.R_drewN | apply Kd.R_drew)); exact Kd.R_mono HO604.out (fun _ hk => hk.2))); (case aS => exact (below_size (bl_ HB.out))); (case aL => have := LMc38.out; omega); intro v606 w50 ho hb hg hat; rw [← Ny605.out] at ho; have n0_ := Aside0.mk (Kd.S_after (ok := (fun k_ => some k_ ≠ (.slice (some ad587) x7_19.length co22 : Value).ownBlock)) (by (with_reducible repeat (first | apply Kd.S_alloc | apply Kd.S_drewN | apply Kd.S_drew)); exact HO_6.out) hg hat); have n1_ := Aside0.mk (Kd.R_after (ok := (fun _ => True)) (by (with_reducible repeat (first | apply Kd.R_alloc | apply Kd.R_drewN | apply Kd.R_drew)); exact HO_7.out) hg hat); have n2_ := Aside0.mk (hb); have n3_ := Aside0.mk (ho); clear HO_6 HO_7 HB HO604; have HO_6 := n0_; have HO_7 := n1_; have HB := n2_; have HO607 := n3_; clear n0_ n1_ n2_ n3_ ho hb hg hat; have p608 : 0 ≤ (x8_2 : Int) := of_decide_eq_true (by first | (with_reducible assumption) | assumption); have q608 : x8_2 < (l1.length : Int) := of_decide_eq_true (by first | (with_reducible assumption) | assumption); obtain ⟨ad608, e608, hx608_0, hx608_1⟩ := at_T27 HR1.out x8_2 p608 q608; obtain rfl : ad589 = ad608 := (by injection e608); replace hx608_0 := (HB.out.cell (World.block_lt_of_cell? w _ hx608_0)).trans hx608_0; replace hx608_1 := (HB.out.cell (World.block_lt_of_cell? w _ hx608_1)).trans hx608_1; replace p608 := eq_true p608; replace q608 := eq_true q608; have p41 : 0 ≤ (x8_2 : Int) := of_decide_eq_true (by first | (with_reducible assumption) | assumption); have q41 : (x8_2 : Int) < ((y605.length : Int) : Int) := of_decide_eq_true (by first | (with_reducible assumption) | assumption); obtain ⟨go41, co41, eo41, gb41, gl41, cl41, HG41⟩ := Kd.R_form HO607.out (by omega); (first | cases eo41 | (injection eo41 with ea_ en_ ec_; (first | subst ea_ | (injection ea_ with ea_; subst ea_)); subst ec_; clear en_)); have GB41 := Aside0.mk gb41; have GG41 := Aside0.mk HG41; clear gb41 gl41 HG41; obtain ⟨ce41, hcl41, hM41, hcc41, hfr41⟩ := Kd.R_elem HO607.out z27 (x8_2 : Int) p41 q41; obtain rfl := k27_openM hM41; have hx41_0 : w50.cell? ⟨go41, (x8_2 : Int).toNat * 2, none⟩ = some (.int .i64 ((rd_T27 y605 x8_2).f0)) := hcc41 0 _ rfl; have hx41_1 : w50.cell? ⟨go41, (x8_2 : Int).toNat * 2 + 1, none⟩ = some (.int .i64 ((rd_T27 y605 x8_2).f1)) := hcc41 1 _ rfl; have hf41_0 : w50.frozen? ⟨go41, (x8_2 : Int).toNat * 2, none⟩ = false := hfr41 0; have hf41_1 : w50.frozen? ⟨go41, (x8_2 : Int).toNat * 2 + 1, none⟩ = false := hfr41 1; clear hcl41 hcc41 hfr41 hM41; replace p41 := eq_true p41; replace q41 := eq_true q41; have HX51 := Aside0.mk (show Kd.R k27 27 w50 w.heap.size (fun k_ => some k_ ≠ (.slice (some ad587) x7_19.length co22 : Value).ownBlock) (.slice (some ⟨go41, 0, none⟩) y605.length co41) y605 from (by (with_reducible repeat (first | apply Kd.R_alloc | apply Kd.R_drewN | apply Kd.R_drew)); exact HO607.out)); obtain ⟨ce51, hcl51, hM51, hcc51, hfr51⟩ := Kd.R_elem HX51.out z27 (x8_2 : Int) (of_decide_eq_true (by first | (with_reducible assumption) | assumption)) (by have h_ : (x8_2 : Int) < ((y605.length : Int) : Int) := of_decide_eq_true (by first | (with_reducible assumption) | assumption); first | exact h_ | (have e_ := (Kd.R_reads' HO607.out).1; omega) | simpa using h_); obtain rfl := k27_openM hM51; have HP51 := Kd.R_seg HX51.out (x8_2 : Int) (of_decide_eq_true (by first | (with_reducible assumption) | assumption)) (by have h_ : (x8_2 : Int) < ((y605.length : Int) : Int) := of_decide_eq_true (by first | (with_reducible assumption) | assumption); first | exact h_ | (have e_ := (Kd.R_reads' HO607.out).1; omega) | simpa using h_) (seg := [.int .i64 ji39]) (j := 0) hcl51 hcc51 (show 1 ≤ 2 from by decide) (x' := (⟨ji39, (rd_T27 y605 x8_2).f1⟩ : S27)) (k27_mkM _ _ _ (⟨ji39, (rd_T27 y605 x8_2).f1⟩ : S27) ) (fun _ hk => hk); have hx51_0 := hcc51 0 _ rfl; (try simp only [show (k27).sz = 2 from rfl, Nat.mul_one, Nat.add_zero] at hx51_0); have hf51_0 := hfr51 0; (try simp only [show (k27).sz = 2 from rfl, Nat.mul_one, Nat.add_zero] at hf51_0); clear hcl51 hcc51 hfr51 hM51) | ((with_reducible refine gate_store (t := 3) (p := 92) rfl ?_); refine store_event (t := 3) (p := 92) (v := ?vo_w52) (w1 := (w50.setCell ⟨go41, (x8_2 : Int).toNat * 2, none⟩ (.int .i64 ji39))) ?hg ?ho ?hn ?hr ?_; (case ho => rfl); (case hg => rfl); (case hn => rfl); (case hr => first | (go_simp; done) | (go_simp; rfl)); intro w52 hw; have hg : w50.grownBy w52 (some go41) := (by rw [hw]; exact HP51.2); have hp_ : Kd.R k27 27 w52 w.heap.size (fun k_ => some k_ ≠ (.slice (some ad587) x7_19.length co22 : Value).ownBlock) (.slice (some ⟨go41, 0, none⟩) y605.length co41) y609 := (by rw [hw, Ny609.out]; exact HP51.1); clear HP51; have n0_ := Aside0.mk (Kd.S_after (v := (.slice (some ⟨go41, 0, none⟩) y605.length co41)) (v1 := (.slice (some ⟨go41, 0, none⟩) y605.length co41)) (ok := (fun k_ => some k_ ≠ (.slice (some ad587) x7_19.length co22 : Value).ownBlock)) (by (with_reducible repeat (first | apply Kd.S_alloc | apply Kd.S_drewN | apply Kd.S_drew)); exact HO_6.out) hg (.inl rfl)); have n1_ := Aside0.mk (Kd.R_after (v := (.slice (some ⟨go41, 0, none⟩) y605.length co41)) (v1 := (.slice (some ⟨go41, 0, none⟩) y605.length co41)) (ok := (fun _ => True)) (by (with_reducible repeat (first | apply Kd.R_alloc | apply Kd.R_drewN | apply Kd.R_drew)); exact HO_7.out) hg (.inl rfl)); have n2_ := Aside0.mk (hp_); have n3_ := Aside0.mk ((by rw [hw]; exact below_set (HB.out) GB41.out : Below w.heap.size w w52)); clear HO_6 HO_7 HO607 HB; have HO_6 := n0_; have HO_7 := n1_; have HO607 := n2_; have HB := n3_; clear n0_ n1_ n2_ n3_ hg hw hp_) | ((with_reducible refine gate_builtin (b := .append) (xs := #[.tmp 93, .tmp 95]) rfl ?_); at_builtin; refine Kd.S_append (Kd.slice 27 k27) (w0 := w) w.heap.size rfl (.tmp 93) (.tmp 95) 95 38 (.slice none 0 0) 24 rfl Try.underlying95 info38 rfl (by decide) (by omega) u6 x6_19 y609 [.slice (some ⟨go41, 0, none⟩) y605.length co41] (fun k_ => some k_ ≠ (.slice (some ad587) x7_19.length co22 : Value).ownBlock) (fun k_ => some k_ = (.slice (some ⟨go41, 0, none⟩) y605.length co41 : Value).ownBlock) rfl rfl ?aP (fun k_ hk_ => ((Kd.R_mono (ok' := fun k_ => ((fun k_ => some k_ ≠ (.slice (some ad587) x7_19.length co22 : Value).ownBlock)) k_ ∧ some k_ ≠ (u6 : Value).ownBlock) (Kd.R_apart' (HO607.out) (Kd.S_typed HO_6.out) (by decide)) (fun k_ hk => ⟨hk.1, hk.2⟩))).1 k_ hk_.symm) ?aF ?aO ?aB ?aS ?aL ?_; (case aP => exact Kd.M_row (Kd.R_mono (Kd.R_tight rfl (Kd.R_mono (ok' := fun k_ => ((fun k_ => some k_ ≠ (.slice (some ad587) x7_19.length co22 : Value).ownBlock)) k_ ∧ some k_ ≠ (u6 : Value).ownBlock) (Kd.R_apart' (HO607.out) (Kd.S_typed HO_6.out) (by decide)) (fun k_ hk => ⟨hk.1, hk.2⟩))) (fun _ h_ => h_))); (case aB => exact (bl_ HB.out)); (case aF => exact (fun k_ hk => Kd.fresh' (Kd.R_lt (by (with_reducible repeat (first | apply Kd.R_alloc | apply Kd.R_drewN | apply Kd.R_drew)); exact HO_7.out)) k_ hk)); (case aO => exact (by (with_reducible repeat (first | apply Kd.S_alloc | apply Kd.S_drewN | apply Kd.S_drew)); exact Kd.S_mono HO_6.out (fun k_ hk => ⟨hk.1, fun e_ => hk.2 e_⟩))); (case aS => exact (below_size (bl_ HB.out))); (case aL => have := LMc42.out; omega); intro v611 w53 ho hb hg hat; rw [← Ny610.out] at ho; have n0_ := Aside0.mk (Kd.R_over' (by (with_reducible repeat (first | apply Kd.R_alloc | apply Kd.R_drewN | apply Kd.R_drew)); exact HO_7.out) (Kd.S_typed (by (with_reducible repeat (first | apply Kd.S_alloc | apply Kd.S_drewN | apply Kd.S_drew)); exact HO_6.out)) (by decide) hg); have n1_ := Aside0.mk (hb); have n2_ := Aside0.mk (ho); clear HO_7 HB HO_6 HO607; have HO_7 := n0_; have HB := n1_; have HO612 := n2_; clear n0_ n1_ n2_ ho hb hg hat))
                      have n0_ := Aside0.mk (Kd.R_drew HO_7.out)
                      have n1_ := Aside0.mk (Kd.S_drew HO612.out)
                      have n2_ := Aside0.mk (below_drew1 HB.out)
                      clear HO_7 HO612 HB
                      have HO_7 := n0_
                      have HO612 := n1_
                      have HB := n2_
                      clear n0_ n1_ n2_
                      have p613 : 0 ≤ (x8_2 : Int) := of_decide_eq_true (by first | (with_reducible assumption) | assumption)
                      have q613 : x8_2 < (l1.length : Int) := of_decide_eq_true (by first | (with_reducible assumption) | assumption)
                      obtain ⟨ad613, e613, hx613_0, hx613_1⟩ := at_T27 HR1.out x8_2 p613 q613
                      have hw613_1 := hx613_1
                      have hw613_0 := hx613_0
                      obtain rfl : ad589 = ad613 := (by injection e613)
                      replace hx613_0 := (HB.out.cell (World.block_lt_of_cell? w _ hx613_0)).trans hx613_0
                      replace hx613_1 := (HB.out.cell (World.block_lt_of_cell? w _ hx613_1)).trans hx613_1
                      replace p613 := eq_true p613
                      replace q613 := eq_true q613
                      have p614 : 0 ≤ (x8_2 : Int) := of_decide_eq_true (by first | (with_reducible assumption) | assumption)
                      have q614 : x8_2 < (l1.length : Int) := of_decide_eq_true (by first | (with_reducible assumption) | assumption)
                      obtain ⟨ad614, e614, hx614_0, hx614_1⟩ := at_T27 HR1.out x8_2 p614 q614
                      have hw614_1 := hx614_1
                      have hw614_0 := hx614_0
                      obtain rfl : ad589 = ad614 := (by injection e614)
                      replace hx614_0 := (HB.out.cell (World.block_lt_of_cell? w _ hx614_0)).trans hx614_0
                      replace hx614_1 := (HB.out.cell (World.block_lt_of_cell? w _ hx614_1)).trans hx614_1
                      replace p614 := eq_true p614
                      replace q614 := eq_true q614
                      have p46 : 0 ≤ (x8_2 : Int) := of_decide_eq_true (by first | (with_reducible assumption) | assumption)
                      have q46 : (x8_2 : Int) < ((x7_19.length : Int) : Int) := of_decide_eq_true (by first | (with_reducible assumption) | assumption)
                      obtain ⟨go46, co46, eo46, gb46, gl46, cl46, HG46⟩ := Kd.R_form HO_7.out (by omega)
                      (first | cases eo46 | (injection eo46 with ea_ en_ ec_; (first | subst ea_ | (injection ea_ with ea_; subst ea_)); subst ec_; clear en_))
                      have GB46 := Aside0.mk gb46
                      have GG46 := Aside0.mk HG46
                      clear gb46 gl46 HG46
                      (first | simp only [add_plain] at hx587_0 | skip)
                      (first | simp only [add_plain] at hx587_1 | skip)
                      (first | simp only [add_plain] at hx588_0 | skip)
                      (first | simp only [add_plain] at hx588_1 | skip)
                      obtain ⟨ce46, hcl46, hM46, hcc46, hfr46⟩ := Kd.R_elem HO_7.out z27 (x8_2 : Int) p46 q46
                      obtain rfl := k27_openM hM46
                      have hx46_0 : World.cell? _ ⟨go46, (x8_2 : Int).toNat * 2, none⟩ = some (.int .i64 ((rd_T27 x7_19 x8_2).f0)) := hcc46 0 _ rfl
                      have hx46_1 : World.cell? _ ⟨go46, (x8_2 : Int).toNat * 2 + 1, none⟩ = some (.int .i64 ((rd_T27 x7_19 x8_2).f1)) := hcc46 1 _ rfl
                      have hf46_0 : World.frozen? _ ⟨go46, (x8_2 : Int).toNat * 2, none⟩ = false := hfr46 0
                      have hf46_1 : World.frozen? _ ⟨go46, (x8_2 : Int).toNat * 2 + 1, none⟩ = false := hfr46 1
                      clear hcl46 hcc46 hfr46 hM46
                      replace p46 := eq_true p46
                      replace q46 := eq_true q46
                      obtain ⟨ce55, hcl55, hM55, hcc55, hfr55⟩ := Kd.R_elem HO_7.out z27 (x8_2 : Int) (of_decide_eq_true (by first | (with_reducible assumption) | assumption)) (by have h_ : (x8_2 : Int) < ((x7_19.length : Int) : Int) := of_decide_eq_true (by first | (with_reducible assumption) | assumption); first | exact h_ | (have e_ := (Kd.R_reads' HO_7.out).1; omega) | simpa using h_)
                      obtain rfl := k27_openM hM55
                      have HP55 := (Kd.R_seg HO_7.out (x8_2 : Int) (of_decide_eq_true (by first | (with_reducible assumption) | assumption)) (by have h_ : (x8_2 : Int) < ((x7_19.length : Int) : Int) := of_decide_eq_true (by first | (with_reducible assumption) | assumption); first | exact h_ | (have e_ := (Kd.R_reads' HO_7.out).1; omega) | simpa using h_) (seg := [.int .i64 ji43, .int .i64 ji44]) (j := 0) hcl55 hcc55 (show 2 ≤ 2 from by decide) (x' := (⟨ji43, ji44⟩ : S27)) (k27_mkM _ _ _ (⟨ji43, ji44⟩ : S27) ) (fun _ hk => hk)).1
                      rw [← Ny615.out] at HP55
                      have HQ55 := Aside0.mk HP55
                      clear hcl55 hcc55 hfr55 hM55 HP55
                      refine start_ (n := 19) (S := fun w' => w'.cell? (ad589.add ((x8_2).toNat * 2)) = some (.int .i64 ((rd_T27 l1 x8_2).f0)) ∧ w'.cell? ⟨(ad589.add ((x8_2).toNat * 2)).block, (ad589.add ((x8_2).toNat * 2)).off + 1, none⟩ = some (.int .i64 ((rd_T27 l1 x8_2).f1)) ∧ w'.cell? (ad589.add ((x8_2).toNat * 2)) = some (.int .i64 ((rd_T27 l1 x8_2).f0)) ∧ w'.cell? ⟨(ad589.add ((x8_2).toNat * 2)).block, (ad589.add ((x8_2).toNat * 2)).off + 1, none⟩ = some (.int .i64 ((rd_T27 l1 x8_2).f1))) (ds := [18]) #[false, false, false, false, false, false, false, false, false, false, false, false, false, false, false, false, false, false, false] (by kernel_rfl) rfl rfl ⟨((HB.out.cell (World.block_lt_of_cell? w _ hw613_0)).trans hw613_0), ((HB.out.cell (World.block_lt_of_cell? w _ hw613_1)).trans hw613_1), ((HB.out.cell (World.block_lt_of_cell? w _ hw614_0)).trans hw614_0), ((HB.out.cell (World.block_lt_of_cell? w _ hw614_1)).trans hw614_1)⟩ (fun hHeld => ?_); refine with_tabW swashplateref01_Minus.tab19 swashplateref01_Minus.bits19 (fun HT_ HW_ => ?_)
                      generalize w53.drew = w54 at HO_7 HO612 HB GG46 HQ55 hf46_0 hf46_1 hx46_0 hx46_1 hx613_0 hx613_1 hx614_0 hx614_1 hHeld ⊢
                      refine pure_ (i := 0) (N := some 97) (v := ?_) (a' := ?_) #[true, false, false, false, false, false, false, false, false, false, false, false, false, false, false, false, false, false, false] rfl rfl (any_of HT_.out (by kernel_rfl)) (fun _ _ _ h => h) (Or.inl ⟨by rfl, ?_⟩) ?_ ?_
                      rotate_left
                      ·
                       intro w'
                       go_simp
                       with_reducible rfl
                      rotate_left
                      ·
                       simp only [Act.put, List.setIfInBounds_toArray, List.set_cons_zero, List.set_cons_succ, i64_w, i32_w]
                       rfl
                      refine pure_ (i := 1) (N := some 98) (v := ?_) (a' := ?_) #[true, true, false, false, false, false, false, false, false, false, false, false, false, false, false, false, false, false, false] rfl rfl (any_of HT_.out (by kernel_rfl)) (fun _ _ _ h => h) (Or.inl ⟨by rfl, ?_⟩) ?_ ?_
                      rotate_left
                      ·
                       intro w'
                       go_simp
                       with_reducible rfl
                      rotate_left
                      ·
                       simp only [Act.put, List.setIfInBounds_toArray, List.set_cons_zero, List.set_cons_succ, i64_w, i32_w]
                       rfl
                      refine pure_ (i := 2) (N := some 99) (v := ?_) (a' := ?_) #[true, true, true, false, false, false, false, false, false, false, false, false, false, false, false, false, false, false, false] rfl rfl (any_of HT_.out (by kernel_rfl)) (fun _ _ _ h => h) (Or.inl ⟨by rfl, ?_⟩) ?_ ?_
                      rotate_left
                      ·
                       intro w'
                       go_simp
                       with_reducible rfl
                      rotate_left
                      ·
                       simp only [Act.put, List.setIfInBounds_toArray, List.set_cons_zero, List.set_cons_succ, i64_w, i32_w]
                       rfl
                      refine pure_ (i := 3) (N := some 100) (v := ?_) (a' := ?_) #[true, true, true, true, false, false, false, false, false, false, false, false, false, false, false, false, false, false, false] rfl rfl (any_of HT_.out (by kernel_rfl)) (fun _ _ _ h => h) (Or.inl ⟨by rfl, ?_⟩) ?_ ?_
                      rotate_left
                      ·
                       intro w'
                       go_simp
                       with_reducible rfl
                      rotate_left
                      ·
                       simp only [Act.put, List.setIfInBounds_toArray, List.set_cons_zero, List.set_cons_succ, i64_w, i32_w]
                       rfl
                      refine pure_ (i := 4) (N := some 101) (v := ?_) (a' := ?_) #[true, true, true, true, true, false, false, false, false, false, false, false, false, false, false, false, false, false, false] rfl rfl (any_of HT_.out (by kernel_rfl)) (fun _ _ _ h => h) (Or.inl ⟨by rfl, ?_⟩) ?_ ?_
                      rotate_left
                      ·
                       intro w'
                       go_simp
                       with_reducible rfl
                      rotate_left
                      ·
                       simp only [Act.put, List.setIfInBounds_toArray, List.set_cons_zero, List.set_cons_succ, i64_w, i32_w]
                       rfl
                      refine pure_ (i := 5) (N := some 102) (v := ?_) (a' := ?_) #[true, true, true, true, true, true, false, false, false, false, false, false, false, false, false, false, false, false, false] rfl rfl (any_of HT_.out (by kernel_rfl)) (fun _ _ _ h => h) (Or.inl ⟨by rfl, ?_⟩) ?_ ?_
                      rotate_left
                      ·
                       intro w'
                       go_simp
                       with_reducible rfl
                      rotate_left
                      ·
                       simp only [Act.put, List.setIfInBounds_toArray, List.set_cons_zero, List.set_cons_succ, i64_w, i32_w]
                       rfl
                      refine pure_ (i := 6) (N := some 103) (v := ?_) (a' := ?_) #[true, true, true, true, true, true, true, false, false, false, false, false, false, false, false, false, false, false, false] rfl rfl (any_of HT_.out (by kernel_rfl)) (fun _ _ _ h => h) (Or.inl ⟨by rfl, ?_⟩) ?_ ?_
                      rotate_left
                      ·
                       intro w'
                       go_simp
                       with_reducible rfl
                      rotate_left
                      ·
                       simp only [Act.put, List.setIfInBounds_toArray, List.set_cons_zero, List.set_cons_succ, i64_w, i32_w]
                       rfl
                      refine pure_ (i := 9) (N := some 106) (v := ?_) (a' := ?_) #[true, true, true, true, true, true, true, false, false, true, false, false, false, false, false, false, false, false, false] rfl rfl (any_of HT_.out (by kernel_rfl)) (fun _ _ _ h => h) (Or.inl ⟨by rfl, ?_⟩) ?_ ?_
                      rotate_left
                      ·
                       intro w'
                       go_simp
                       with_reducible rfl
                      rotate_left
                      ·
                       simp only [Act.put, List.setIfInBounds_toArray, List.set_cons_zero, List.set_cons_succ, i64_w, i32_w]
                       rfl
                      refine pure_ (i := 10) (N := some 107) (v := ?_) (a' := ?_) #[true, true, true, true, true, true, true, false, false, true, true, false, false, false, false, false, false, false, false] rfl rfl (any_of HT_.out (by kernel_rfl)) (fun _ _ _ h => h) (Or.inl ⟨by rfl, ?_⟩) ?_ ?_
                      rotate_left
                      ·
                       intro w'
                       go_simp
                       with_reducible rfl
                      rotate_left
                      ·
                       simp only [Act.put, List.setIfInBounds_toArray, List.set_cons_zero, List.set_cons_succ, i64_w, i32_w]
                       rfl
                      refine pure_ (i := 11) (N := some 108) (v := ?_) (a' := ?_) #[true, true, true, true, true, true, true, false, false, true, true, true, false, false, false, false, false, false, false] rfl rfl (any_of HT_.out (by kernel_rfl)) (fun _ _ _ h => h) (Or.inl ⟨by rfl, ?_⟩) ?_ ?_
                      rotate_left
                      ·
                       intro w'
                       go_simp
                       with_reducible rfl
                      rotate_left
                      ·
                       simp only [Act.put, List.setIfInBounds_toArray, List.set_cons_zero, List.set_cons_succ, i64_w, i32_w]
                       rfl
                      refine pure_ (i := 12) (N := some 109) (v := ?_) (a' := ?_) #[true, true, true, true, true, true, true, false, false, true, true, true, true, false, false, false, false, false, false] rfl rfl (any_of HT_.out (by kernel_rfl)) (fun _ _ _ h => h) (Or.inl ⟨by rfl, ?_⟩) ?_ ?_
                      rotate_left
                      ·
                       intro w'
                       go_simp
                       with_reducible rfl
                      rotate_left
                      ·
                       simp only [Act.put, List.setIfInBounds_toArray, List.set_cons_zero, List.set_cons_succ, i64_w, i32_w]
                       rfl
                      refine pure_ (i := 13) (N := some 110) (v := ?_) (a' := ?_) #[true, true, true, true, true, true, true, false, false, true, true, true, true, true, false, false, false, false, false] rfl rfl (any_of HT_.out (by kernel_rfl)) (fun _ _ _ h => h) (Or.inl ⟨by rfl, ?_⟩) ?_ ?_
                      rotate_left
                      ·
                       intro w'
                       go_simp
                       with_reducible rfl
                      rotate_left
                      ·
                       simp only [Act.put, List.setIfInBounds_toArray, List.set_cons_zero, List.set_cons_succ, i64_w, i32_w]
                       rfl
                      refine take_ (i := 7) (N := some 104) (v := ?_) (a' := ?_) #[true, true, true, true, true, true, true, true, false, true, true, true, true, true, false, false, false, false, false] rfl rfl (take_ofW HT_.out HW_.out (by kernel_rfl)) (fun _ _ _ h => h) (Or.inl ⟨by rfl, ?_⟩) hHeld ?_ ?_
                      rotate_left
                      ·
                       rintro w' ⟨s0, s1, s2, s3⟩
                       go_simp
                       with_reducible rfl
                      rotate_left
                      ·
                       simp only [Act.put, List.setIfInBounds_toArray, List.set_cons_zero, List.set_cons_succ, i64_w, i32_w]
                       rfl
                      refine pure_ (i := 8) (N := some 105) (v := ?_) (a' := ?_) #[true, true, true, true, true, true, true, true, true, true, true, true, true, true, false, false, false, false, false] rfl rfl (any_of HT_.out (by kernel_rfl)) (fun _ _ _ h => h) (Or.inl ⟨by rfl, ?_⟩) ?_ ?_
                      rotate_left
                      ·
                       intro w'
                       go_simp
                       with_reducible rfl
                      rotate_left
                      ·
                       simp only [Act.put, List.setIfInBounds_toArray, List.set_cons_zero, List.set_cons_succ, i64_w, i32_w]
                       rfl
                      refine take_ (i := 14) (N := some 111) (v := ?_) (a' := ?_) #[true, true, true, true, true, true, true, true, true, true, true, true, true, true, true, false, false, false, false] rfl rfl (take_ofW HT_.out HW_.out (by kernel_rfl)) (fun _ _ _ h => h) (Or.inl ⟨by rfl, ?_⟩) hHeld ?_ ?_
                      rotate_left
                      ·
                       rintro w' ⟨s0, s1, s2, s3⟩
                       go_simp
                       with_reducible rfl
                      rotate_left
                      ·
                       simp only [Act.put, List.setIfInBounds_toArray, List.set_cons_zero, List.set_cons_succ, i64_w, i32_w]
                       rfl
                      refine pure_ (i := 15) (N := some 112) (v := ?_) (a' := ?_) #[true, true, true, true, true, true, true, true, true, true, true, true, true, true, true, true, false, false, false] rfl rfl (any_of HT_.out (by kernel_rfl)) (fun _ _ _ h => h) (Or.inl ⟨by rfl, ?_⟩) ?_ ?_
                      rotate_left
                      ·
                       intro w'
                       go_simp
                       with_reducible rfl
                      rotate_left
                      ·
                       simp only [Act.put, List.setIfInBounds_toArray, List.set_cons_zero, List.set_cons_succ, i64_w, i32_w]
                       rfl
                      refine pure_ (i := 16) (N := some 113) (v := ?_) (a' := ?_) #[true, true, true, true, true, true, true, true, true, true, true, true, true, true, true, true, true, false, false] rfl rfl (any_of HT_.out (by kernel_rfl)) (fun _ _ _ h => h) (Or.inl ⟨by rfl, ?_⟩) ?_ ?_
                      rotate_left
                      ·
                       intro w'
                       go_simp
                       with_reducible rfl
                      rotate_left
                      ·
                       simp only [Act.put, List.setIfInBounds_toArray, List.set_cons_zero, List.set_cons_succ, i64_w, i32_w]
                       rfl
                      refine pure_ (i := 17) (N := some 114) (v := ?_) (a' := ?_) #[true, true, true, true, true, true, true, true, true, true, true, true, true, true, true, true, true, true, false] rfl rfl (any_of HT_.out (by kernel_rfl)) (fun _ _ _ h => h) (Or.inl ⟨by rfl, ?_⟩) ?_ ?_
                      rotate_left
                      ·
                       intro w'
                       go_simp
                       with_reducible rfl
                      rotate_left
                      ·
                       simp only [Act.put, List.setIfInBounds_toArray, List.set_cons_zero, List.set_cons_succ, i64_w, i32_w]
                       rfl
                      refine last_ (i := 18) (N := none) #[true, true, true, true, true, true, true, true, true, true, true, true, true, true, true, true, true, true, true] rfl rfl (one_of HT_.out (by kernel_rfl)) (by decide) (fun K hK => ?_)
                      refine skip_ (w1 := ?_) (by rfl) rfl ?_ ?_
                      rotate_left
                      ·
                       go_simp
                       rfl
                      refine hK.out _ _ ?_
                      clear hK K
                      refine done_ (done_of HT_.out (by kernel_rfl)) ?_
                      try go_wp2
                      have n0_ : Aside0 (Kd.R k27 27 ((w54.setCell ⟨go46, (x8_2 : Int).toNat * 2, none⟩ (.int .i64 ji43)).setCell ⟨go46, (x8_2 : Int).toNat * 2 + 1, none⟩ (.int .i64 ji44)) w.heap.size (fun _ => True) (.slice (some ⟨go46, 0, none⟩) x7_19.length co22) y615) := ⟨by (with_reducible repeat (first | apply Kd.R_alloc | apply Kd.R_drewN | apply Kd.R_drew)); exact Kd.R_mono HQ55.out (fun _ hk => trivial)⟩
                      have n1_ : Aside0 (Kd.S (Kd.slice 27 k27) 38 ((w54.setCell ⟨go46, (x8_2 : Int).toNat * 2, none⟩ (.int .i64 ji43)).setCell ⟨go46, (x8_2 : Int).toNat * 2 + 1, none⟩ (.int .i64 ji44)) w.heap.size (fun k_ => some k_ ≠ (.slice (some ⟨go46, 0, none⟩) x7_19.length co22 : Value).ownBlock) v611 y610) := ⟨by (with_reducible repeat (first | apply Kd.S_alloc | apply Kd.S_drewN | apply Kd.S_drew)); exact Kd.S_mono (Kd.S_far (p := ⟨go46, (x8_2 : Int).toNat * 2 + 1, none⟩) (Kd.S_far (p := ⟨go46, (x8_2 : Int).toNat * 2, none⟩) (Kd.S_mono HO612.out (fun k_ hk => (⟨hk, fun e_ => hk (by rw [e_]; rfl)⟩ : _ ∧ k_ ≠ go46))) (fun _ hk => hk.2) (.int .i64 ji43)) (fun _ hk => hk.2) (.int .i64 ji44)) (fun _ hk => hk.1)⟩
                      have n2_ : Aside0 (Below w.heap.size w ((w54.setCell ⟨go46, (x8_2 : Int).toNat * 2, none⟩ (.int .i64 ji43)).setCell ⟨go46, (x8_2 : Int).toNat * 2 + 1, none⟩ (.int .i64 ji44))) := ⟨by repeat (first | (with_reducible first | exact HB.out | apply below_alloc | apply pw_below_drewN | apply below_drew1 | refine below_set ?_ GB46.out | refine below_set ?_ GB46.out) | exact HB.out)⟩
                      (try clear HO_7)
                      (try clear HO612)
                      (try clear HB)
                      generalize ((w54.setCell ⟨go46, (x8_2 : Int).toNat * 2, none⟩ (.int .i64 ji43)).setCell ⟨go46, (x8_2 : Int).toNat * 2 + 1, none⟩ (.int .i64 ji44)) = w56 at n0_ n1_ n2_ ⊢
                      have HO_7 := n0_
                      have HO612 := n1_
                      have HB := n2_
                      clear n0_ n1_ n2_
                      have n0_ := Aside0.mk (Kd.R_drew HO_7.out)
                      have n1_ := Aside0.mk (Kd.S_drew HO612.out)
                      have n2_ := Aside0.mk (below_drew1 HB.out)
                      clear HO_7 HO612 HB
                      have HO_7 := n0_
                      have HO612 := n1_
                      have HB := n2_
                      clear n0_ n1_ n2_
                      have p616 : 0 ≤ (x8_2 : Int) := of_decide_eq_true (by first | (with_reducible assumption) | assumption)
                      have q616 : x8_2 < (y615.length : Int) := (by have h_ : (x8_2 : Int) < ((x7_19.length : Int) : Int) := of_decide_eq_true (by first | (with_reducible assumption) | assumption); first | (have e_ := (Kd.R_reads' HO_7.out).1; omega) | simpa only [Ny615.out, List.length_set] using h_)
                      have ql616 : ((x8_2 : Int) < ((x7_19.length : Int) : Int)) = True := eq_true (of_decide_eq_true (by first | (with_reducible assumption) | assumption))
                      obtain ⟨ad616, e616, hx616_0, hx616_1⟩ := at_T27 (Kd.R_reads' HO_7.out).2.2 x8_2 p616 q616
                      obtain rfl : (⟨go46, 0, none⟩ : Addr) = ad616 := (by injection e616)
                      (first | simp only [add_plain] at hx616_0 | simp only [add_at] at hx616_0 | simp only [Addr.add, Nat.zero_add] at hx616_0 | skip)
                      (first | simp only [add_plain] at hx616_1 | simp only [add_at] at hx616_1 | simp only [Addr.add, Nat.zero_add] at hx616_1 | skip)
                      replace p616 := eq_true p616
                      replace q616 := eq_true q616
                      have p617 : 0 ≤ (x8_2 : Int) := of_decide_eq_true (by first | (with_reducible assumption) | assumption)
                      have q617 : x8_2 < (y615.length : Int) := (by have h_ : (x8_2 : Int) < ((x7_19.length : Int) : Int) := of_decide_eq_true (by first | (with_reducible assumption) | assumption); first | (have e_ := (Kd.R_reads' HO_7.out).1; omega) | simpa only [Ny615.out, List.length_set] using h_)
                      have ql617 : ((x8_2 : Int) < ((x7_19.length : Int) : Int)) = True := eq_true (of_decide_eq_true (by first | (with_reducible assumption) | assumption))
                      obtain ⟨ad617, e617, hx617_0, hx617_1⟩ := at_T27 (Kd.R_reads' HO_7.out).2.2 x8_2 p617 q617
                      obtain rfl : (⟨go46, 0, none⟩ : Addr) = ad617 := (by injection e617)
                      (first | simp only [add_plain] at hx617_0 | simp only [add_at] at hx617_0 | simp only [Addr.add, Nat.zero_add] at hx617_0 | skip)
                      (first | simp only [add_plain] at hx617_1 | simp only [add_at] at hx617_1 | simp only [Addr.add, Nat.zero_add] at hx617_1 | skip)
                      replace p617 := eq_true p617
                      replace q617 := eq_true q617
                      refine start_ (n := 11) (S := fun w' => w'.cell? ⟨go46, (x8_2).toNat * 2, none⟩ = some (.int .i64 ((rd_T27 y615 x8_2).f0)) ∧ w'.cell? ⟨go46, (x8_2).toNat * 2 + 1, none⟩ = some (.int .i64 ((rd_T27 y615 x8_2).f1)) ∧ w'.cell? ⟨go46, (x8_2).toNat * 2, none⟩ = some (.int .i64 ((rd_T27 y615 x8_2).f0)) ∧ w'.cell? ⟨go46, (x8_2).toNat * 2 + 1, none⟩ = some (.int .i64 ((rd_T27 y615 x8_2).f1))) (ds := []) #[false, false, false, false, false, false, false, false, false, false, false] (by kernel_rfl) rfl rfl ⟨hx616_0, hx616_1, hx617_0, hx617_1⟩ (fun hHeld => ?_); refine with_tabW swashplateref01_Minus.tab20 swashplateref01_Minus.bits20 (fun HT_ HW_ => ?_)
                      generalize w56.drew = w57 at HO_7 HO612 HB HQ55 hx616_0 hx616_1 hx617_0 hx617_1 hHeld ⊢
                      refine pure_ (i := 0) (N := some 115) (v := ?_) (a' := ?_) #[true, false, false, false, false, false, false, false, false, false, false] rfl rfl (any_of HT_.out (by kernel_rfl)) (fun _ _ _ h => h) (Or.inl ⟨by rfl, ?_⟩) ?_ ?_
                      rotate_left
                      ·
                       intro w'
                       go_simp
                       with_reducible rfl
                      rotate_left
                      ·
                       simp only [Act.put, List.setIfInBounds_toArray, List.set_cons_zero, List.set_cons_succ, i64_w, i32_w]
                       rfl
                      refine pure_ (i := 1) (N := some 116) (v := ?_) (a' := ?_) #[true, true, false, false, false, false, false, false, false, false, false] rfl rfl (any_of HT_.out (by kernel_rfl)) (fun _ _ _ h => h) (Or.inl ⟨by rfl, ?_⟩) ?_ ?_
                      rotate_left
                      ·
                       intro w'
                       go_simp
                       with_reducible rfl
                      rotate_left
                      ·
                       simp only [Act.put, List.setIfInBounds_toArray, List.set_cons_zero, List.set_cons_succ, i64_w, i32_w]
                       rfl
                      refine pure_ (i := 2) (N := some 117) (v := ?_) (a' := ?_) #[true, true, true, false, false, false, false, false, false, false, false] rfl rfl (any_of HT_.out (by kernel_rfl)) (fun _ _ _ h => h) (Or.inl ⟨by rfl, ?_⟩) ?_ ?_
                      rotate_left
                      ·
                       intro w'
                       go_simp
                       with_reducible rfl
                      rotate_left
                      ·
                       simp only [Act.put, List.setIfInBounds_toArray, List.set_cons_zero, List.set_cons_succ, i64_w, i32_w]
                       rfl
                      refine pure_ (i := 3) (N := some 118) (v := ?_) (a' := ?_) #[true, true, true, true, false, false, false, false, false, false, false] rfl rfl (any_of HT_.out (by kernel_rfl)) (fun _ _ _ h => h) (Or.inl ⟨by rfl, ?_⟩) ?_ ?_
                      rotate_left
                      ·
                       intro w'
                       go_simp
                       with_reducible rfl
                      rotate_left
                      ·
                       simp only [Act.put, List.setIfInBounds_toArray, List.set_cons_zero, List.set_cons_succ, i64_w, i32_w]
                       rfl
                      refine pure_ (i := 5) (N := some 120) (v := ?_) (a' := ?_) #[true, true, true, true, false, true, false, false, false, false, false] rfl rfl (any_of HT_.out (by kernel_rfl)) (fun _ _ _ h => h) (Or.inl ⟨by rfl, ?_⟩) ?_ ?_
                      rotate_left
                      ·
                       intro w'
                       go_simp
                       with_reducible rfl
                      rotate_left
                      ·
                       simp only [Act.put, List.setIfInBounds_toArray, List.set_cons_zero, List.set_cons_succ, i64_w, i32_w]
                       rfl
                      refine pure_ (i := 6) (N := some 121) (v := ?_) (a' := ?_) #[true, true, true, true, false, true, true, false, false, false, false] rfl rfl (any_of HT_.out (by kernel_rfl)) (fun _ _ _ h => h) (Or.inl ⟨by rfl, ?_⟩) ?_ ?_
                      rotate_left
                      ·
                       intro w'
                       go_simp
                       with_reducible rfl
                      rotate_left
                      ·
                       simp only [Act.put, List.setIfInBounds_toArray, List.set_cons_zero, List.set_cons_succ, i64_w, i32_w]
                       rfl
                      refine pure_ (i := 7) (N := some 122) (v := ?_) (a' := ?_) #[true, true, true, true, false, true, true, true, false, false, false] rfl rfl (any_of HT_.out (by kernel_rfl)) (fun _ _ _ h => h) (Or.inl ⟨by rfl, ?_⟩) ?_ ?_
                      rotate_left
                      ·
                       intro w'
                       go_simp
                       with_reducible rfl
                      rotate_left
                      ·
                       simp only [Act.put, List.setIfInBounds_toArray, List.set_cons_zero, List.set_cons_succ, i64_w, i32_w]
                       rfl
                      refine pure_ (i := 8) (N := some 123) (v := ?_) (a' := ?_) #[true, true, true, true, false, true, true, true, true, false, false] rfl rfl (any_of HT_.out (by kernel_rfl)) (fun _ _ _ h => h) (Or.inl ⟨by rfl, ?_⟩) ?_ ?_
                      rotate_left
                      ·
                       intro w'
                       go_simp
                       with_reducible rfl
                      rotate_left
                      ·
                       simp only [Act.put, List.setIfInBounds_toArray, List.set_cons_zero, List.set_cons_succ, i64_w, i32_w]
                       rfl
                      refine take_ (i := 4) (N := some 119) (v := ?_) (a' := ?_) #[true, true, true, true, true, true, true, true, true, false, false] rfl rfl (take_ofW HT_.out HW_.out (by kernel_rfl)) (fun _ _ _ h => h) (Or.inl ⟨by rfl, ?_⟩) hHeld ?_ ?_
                      rotate_left
                      ·
                       rintro w' ⟨s0, s1, s2, s3⟩
                       go_simp
                       with_reducible rfl
                      rotate_left
                      ·
                       simp only [Act.put, List.setIfInBounds_toArray, List.set_cons_zero, List.set_cons_succ, i64_w, i32_w]
                       rfl
                      refine take_ (i := 9) (N := some 124) (v := ?_) (a' := ?_) #[true, true, true, true, true, true, true, true, true, true, false] rfl rfl (take_ofW HT_.out HW_.out (by kernel_rfl)) (fun _ _ _ h => h) (Or.inl ⟨by rfl, ?_⟩) hHeld ?_ ?_
                      rotate_left
                      ·
                       rintro w' ⟨s0, s1, s2, s3⟩
                       go_simp
                       with_reducible rfl
                      rotate_left
                      ·
                       simp only [Act.put, List.setIfInBounds_toArray, List.set_cons_zero, List.set_cons_succ, i64_w, i32_w]
                       rfl
                      refine pure_ (i := 10) (N := some 125) (v := ?_) (a' := ?_) #[true, true, true, true, true, true, true, true, true, true, true] rfl rfl (any_of HT_.out (by kernel_rfl)) (fun _ _ _ h => h) (Or.inl ⟨by rfl, ?_⟩) ?_ ?_
                      rotate_left
                      ·
                       intro w'
                       go_simp
                       with_reducible rfl
                      rotate_left
                      ·
                       simp only [Act.put, List.setIfInBounds_toArray, List.set_cons_zero, List.set_cons_succ, i64_w, i32_w]
                       rfl
                      refine done_ (done_of HT_.out (by kernel_rfl)) ?_
                      try go_wp2
                      go_ret2
                      exact ⟨_, by first | rfl | (simp [errW_none, errW_some] <;> rfl) | (simp only [← hji39, ← hji43, ← hji44]; first | rfl | (simp [errW_none, errW_some] <;> rfl)) | (simp [*, errW_none, errW_some] <;> rfl), by (with_reducible repeat (first | apply Kd.S_alloc | apply Kd.S_drewN | apply Kd.S_drew)); exact Kd.S_mono HO612.out (fun _ hk => trivial), bl_ HB.out⟩
                     ·
                      rw [if_neg c47] at H
                      have c47b0 : decide (((rd_T27 y615 x8_2).f1) < ((rd_T27 y615 x8_2).f0)) = false := decide_eq_false c47
                      clear c47
                      have H' := Aside0.mk H
                      clear H
                      have p601 : 0 ≤ (x8_2 : Int) := of_decide_eq_true (by first | (with_reducible assumption) | assumption)
                      have q601 : x8_2 < (l1.length : Int) := of_decide_eq_true (by first | (with_reducible assumption) | assumption)
                      obtain ⟨ad601, e601, hx601_0, hx601_1⟩ := at_T27 HR1.out x8_2 p601 q601
                      obtain rfl : ad589 = ad601 := (by injection e601)
                      replace hx601_0 := (HB.out.cell (World.block_lt_of_cell? w _ hx601_0)).trans hx601_0
                      replace hx601_1 := (HB.out.cell (World.block_lt_of_cell? w _ hx601_1)).trans hx601_1
                      replace p601 := eq_true p601
                      replace q601 := eq_true q601
                      try go_wp2_with (first | ((with_reducible refine gate_dst (N := 78) rfl ?_); refine Kd.R_lit k27 _ 27 ?hg (N := 78) ?hd (xs := ([] : List (S27))) (inner := []) (ok := fun _ => True) (okp := fun _ => True) ?hr ?hp (fun _ hk => hk) trivial (Below.refl _ _) (Nat.le_refl _) (by simp) ?_; (case hd => rfl); (case hg => rfl); (case hr => first | (go_simp; done) | (go_simp; rfl)); (case hp => exact (Reps.none _ _)); intro v603 w58 ho59 hb hg_ hnew_; clear hg_ hnew_; (first | rw [← Ny602.out] at ho59 | (simp only [Int.reduceToNat] at ho59; rw [← Ny602.out] at ho59)); have n0_ := Aside0.mk (Kd.S_elder' (by (with_reducible repeat (first | apply Kd.S_alloc | apply Kd.S_drewN | apply Kd.S_drew)); exact HO_6.out) (Kd.R_base ho59) hb); have n1_ := Aside0.mk (Kd.R_elder' (by (with_reducible repeat (first | apply Kd.R_alloc | apply Kd.R_drewN | apply Kd.R_drew)); exact HO_7.out) (Kd.R_base ho59) hb); have n2_ := Aside0.mk (Kd.R_lower (Kd.R_new' ho59 (Kd.R_lt (by (with_reducible repeat (first | apply Kd.R_alloc | apply Kd.R_drewN | apply Kd.R_drew)); exact HO_7.out))) (below_size (bl_ HB.out))); have n3_ := Aside0.mk (below_step (bl_ HB.out) hb); clear HO_6 HO_7 HB; have HO_6 := n0_; have HO_7 := n1_; have HO604 := n2_; have HB := n3_; clear n0_ n1_ n2_ n3_ hb ho59) | ((with_reducible refine gate_builtin (b := .append) (xs := #[.tmp 78, .tmp 79]) rfl ?_); at_builtin; refine Kd.R_append_rows k27 (w0 := w) w.heap.size rfl (.tmp 78) (.tmp 79) 38 27 (.agg #[(.int .i64 0), (.int .i64 0)]) 16 rfl Try.underlying38 info27 rfl (by decide) (by omega) v603 y602 x7_19 _ _ _ (fun k_ => some k_ ≠ (.slice (some ad587) x7_19.length co22 : Value).ownBlock) (fun _ => False) rfl rfl ?aO ?aR (fun _ _ h => h) (fun _ h => h.elim) ?aF ?aB ?aS ?aL ?_; (case aR => exact cr_ (Kd.R_reads' HO_7.out).2.2); (case aB => exact (bl_ HB.out)); (case aF => exact (fun k_ hk => Kd.fresh' (Kd.R_lt (by (with_reducible repeat (first | apply Kd.R_alloc | apply Kd.R_drewN | apply Kd.R_drew)); exact HO_7.out)) k_ hk)); (case aO => exact (by (with_reducible repeat (first | apply Kd.R_alloc | apply Kd.R_drewN | apply Kd.R_drew)); exact Kd.R_mono HO604.out (fun _ hk => hk.2))); (case aS => exact (below_size (bl_ HB.out))); (case aL => have := LMc38.out; omega); intro v606 w60 ho hb hg hat; rw [← Ny605.out] at ho; have n0_ := Aside0.mk (Kd.S_after (ok := (fun k_ => some k_ ≠ (.slice (some ad587) x7_19.length co22 : Value).ownBlock)) (by (with_reducible repeat (first | apply Kd.S_alloc | apply Kd.S_drewN | apply Kd.S_drew)); exact HO_6.out) hg hat); have n1_ := Aside0.mk (Kd.R_after (ok := (fun _ => True)) (by (with_reducible repeat (first | apply Kd.R_alloc | apply Kd.R_drewN | apply Kd.R_drew)); exact HO_7.out) hg hat); have n2_ := Aside0.mk (hb); have n3_ := Aside0.mk (ho); clear HO_6 HO_7 HB HO604; have HO_6 := n0_; have HO_7 := n1_; have HB := n2_; have HO607 := n3_; clear n0_ n1_ n2_ n3_ ho hb hg hat; have p608 : 0 ≤ (x8_2 : Int) := of_decide_eq_true (by first | (with_reducible assumption) | assumption); have q608 : x8_2 < (l1.length : Int) := of_decide_eq_true (by first | (with_reducible assumption) | assumption); obtain ⟨ad608, e608, hx608_0, hx608_1⟩ := at_T27 HR1.out x8_2 p608 q608; obtain rfl : ad589 = ad608 := (by injection e608); replace hx608_0 := (HB.out.cell (World.block_lt_of_cell? w _ hx608_0)).trans hx608_0; replace hx608_1 := (HB.out.cell (World.block_lt_of_cell? w _ hx608_1)).trans hx608_1; replace p608 := eq_true p608; replace q608 := eq_true q608; have p41 : 0 ≤ (x8_2 : Int) := of_decide_eq_true (by first | (with_reducible assumption) | assumption); have q41 : (x8_2 : Int) < ((y605.length : Int) : Int) := of_decide_eq_true (by first | (with_reducible assumption) | assumption); obtain ⟨go41, co41, eo41, gb41, gl41, cl41, HG41⟩ := Kd.R_form HO607.out (by omega); (first | cases eo41 | (injection eo41 with ea_ en_ ec_; (first | subst ea_ | (injection ea_ with ea_; subst ea_)); subst ec_; clear en_)); have GB41 := Aside0.mk gb41; have GG41 := Aside0.mk HG41; clear gb41 gl41 HG41; obtain ⟨ce41, hcl41, hM41, hcc41, hfr41⟩ := Kd.R_elem HO607.out z27 (x8_2 : Int) p41 q41; obtain rfl := k27_openM hM41; have hx41_0 : w60.cell? ⟨go41, (x8_2 : Int).toNat * 2, none⟩ = some (.int .i64 ((rd_T27 y605 x8_2).f0)) := hcc41 0 _ rfl; have hx41_1 : w60.cell? ⟨go41, (x8_2 : Int).toNat * 2 + 1, none⟩ = some (.int .i64 ((rd_T27 y605 x8_2).f1)) := hcc41 1 _ rfl; have hf41_0 : w60.frozen? ⟨go41, (x8_2 : Int).toNat * 2, none⟩ = false := hfr41 0; have hf41_1 : w60.frozen? ⟨go41, (x8_2 : Int).toNat * 2 + 1, none⟩ = false := hfr41 1; clear hcl41 hcc41 hfr41 hM41; replace p41 := eq_true p41; replace q41 := eq_true q41; have HX61 := Aside0.mk (show Kd.R k27 27 w60 w.heap.size (fun k_ => some k_ ≠ (.slice (some ad587) x7_19.length co22 : Value).ownBlock) (.slice (some ⟨go41, 0, none⟩) y605.length co41) y605 from (by (with_reducible repeat (first | apply Kd.R_alloc | apply Kd.R_drewN | apply Kd.R_drew)); exact HO607.out)); obtain ⟨ce61, hcl61, hM61, hcc61, hfr61⟩ := Kd.R_elem HX61.out z27 (x8_2 : Int) (of_decide_eq_true (by first | (with_reducible assumption) | assumption)) (by have h_ : (x8_2 : Int) < ((y605.length : Int) : Int) := of_decide_eq_true (by first | (with_reducible assumption) | assumption); first | exact h_ | (have e_ := (Kd.R_reads' HO607.out).1; omega) | simpa using h_); obtain rfl := k27_openM hM61; have HP61 := Kd.R_seg HX61.out (x8_2 : Int) (of_decide_eq_true (by first | (with_reducible assumption) | assumption)) (by have h_ : (x8_2 : Int) < ((y605.length : Int) : Int) := of_decide_eq_true (by first | (with_reducible assumption) | assumption); first | exact h_ | (have e_ := (Kd.R_reads' HO607.out).1; omega) | simpa using h_) (seg := [.int .i64 ji39]) (j := 0) hcl61 hcc61 (show 1 ≤ 2 from by decide) (x' := (⟨ji39, (rd_T27 y605 x8_2).f1⟩ : S27)) (k27_mkM _ _ _ (⟨ji39, (rd_T27 y605 x8_2).f1⟩ : S27) ) (fun _ hk => hk); have hx61_0 := hcc61 0 _ rfl; (try simp only [show (k27).sz = 2 from rfl, Nat.mul_one, Nat.add_zero] at hx61_0); have hf61_0 := hfr61 0; (try simp only [show (k27).sz = 2 from rfl, Nat.mul_one, Nat.add_zero] at hf61_0); clear hcl61 hcc61 hfr61 hM61) | ((with_reducible refine gate_store (t := 3) (p := 92) rfl ?_); refine store_event (t := 3) (p := 92) (v := ?vo_w62) (w1 := (w60.setCell ⟨go41, (x8_2 : Int).toNat * 2, none⟩ (.int .i64 ji39))) ?hg ?ho ?hn ?hr ?_; (case ho => rfl); (case hg => rfl); (case hn => rfl); (case hr => first | (go_simp; done) | (go_simp; rfl)); intro w62 hw; have hg : w60.grownBy w62 (some go41) := (by rw [hw]; exact HP61.2); have hp_ : Kd.R k27 27 w62 w.heap.size (fun k_ => some k_ ≠ (.slice (some ad587) x7_19.length co22 : Value).ownBlock) (.slice (some ⟨go41, 0, none⟩) y605.length co41) y609 := (by rw [hw, Ny609.out]; exact HP61.1); clear HP61; have n0_ := Aside0.mk (Kd.S_after (v := (.slice (some ⟨go41, 0, none⟩) y605.length co41)) (v1 := (.slice (some ⟨go41, 0, none⟩) y605.length co41)) (ok := (fun k_ => some k_ ≠ (.slice (some ad587) x7_19.length co22 : Value).ownBlock)) (by (with_reducible repeat (first | apply Kd.S_alloc | apply Kd.S_drewN | apply Kd.S_drew)); exact HO_6.out) hg (.inl rfl)); have n1_ := Aside0.mk (Kd.R_after (v := (.slice (some ⟨go41, 0, none⟩) y605.length co41)) (v1 := (.slice (some ⟨go41, 0, none⟩) y605.length co41)) (ok := (fun _ => True)) (by (with_reducible repeat (first | apply Kd.R_alloc | apply Kd.R_drewN | apply Kd.R_drew)); exact HO_7.out) hg (.inl rfl)); have n2_ := Aside0.mk (hp_); have n3_ := Aside0.mk ((by rw [hw]; exact below_set (HB.out) GB41.out : Below w.heap.size w w62)); clear HO_6 HO_7 HO607 HB; have HO_6 := n0_; have HO_7 := n1_; have HO607 := n2_; have HB := n3_; clear n0_ n1_ n2_ n3_ hg hw hp_) | ((with_reducible refine gate_builtin (b := .append) (xs := #[.tmp 93, .tmp 95]) rfl ?_); at_builtin; refine Kd.S_append (Kd.slice 27 k27) (w0 := w) w.heap.size rfl (.tmp 93) (.tmp 95) 95 38 (.slice none 0 0) 24 rfl Try.underlying95 info38 rfl (by decide) (by omega) u6 x6_19 y609 [.slice (some ⟨go41, 0, none⟩) y605.length co41] (fun k_ => some k_ ≠ (.slice (some ad587) x7_19.length co22 : Value).ownBlock) (fun k_ => some k_ = (.slice (some ⟨go41, 0, none⟩) y605.length co41 : Value).ownBlock) rfl rfl ?aP (fun k_ hk_ => ((Kd.R_mono (ok' := fun k_ => ((fun k_ => some k_ ≠ (.slice (some ad587) x7_19.length co22 : Value).ownBlock)) k_ ∧ some k_ ≠ (u6 : Value).ownBlock) (Kd.R_apart' (HO607.out) (Kd.S_typed HO_6.out) (by decide)) (fun k_ hk => ⟨hk.1, hk.2⟩))).1 k_ hk_.symm) ?aF ?aO ?aB ?aS ?aL ?_; (case aP => exact Kd.M_row (Kd.R_mono (Kd.R_tight rfl (Kd.R_mono (ok' := fun k_ => ((fun k_ => some k_ ≠ (.slice (some ad587) x7_19.length co22 : Value).ownBlock)) k_ ∧ some k_ ≠ (u6 : Value).ownBlock) (Kd.R_apart' (HO607.out) (Kd.S_typed HO_6.out) (by decide)) (fun k_ hk => ⟨hk.1, hk.2⟩))) (fun _ h_ => h_))); (case aB => exact (bl_ HB.out)); (case aF => exact (fun k_ hk => Kd.fresh' (Kd.R_lt (by (with_reducible repeat (first | apply Kd.R_alloc | apply Kd.R_drewN | apply Kd.R_drew)); exact HO_7.out)) k_ hk)); (case aO => exact (by (with_reducible repeat (first | apply Kd.S_alloc | apply Kd.S_drewN | apply Kd.S_drew)); exact Kd.S_mono HO_6.out (fun k_ hk => ⟨hk.1, fun e_ => hk.2 e_⟩))); (case aS => exact (below_size (bl_ HB.out))); (case aL => have := LMc42.out; omega); intro v611 w63 ho hb hg hat; rw [← Ny610.out] at ho; have n0_ := Aside0.mk (Kd.R_over' (by (with_reducible repeat (first | apply Kd.R_alloc | apply Kd.R_drewN | apply Kd.R_drew)); exact HO_7.out) (Kd.S_typed (by (with_reducible repeat (first | apply Kd.S_alloc | apply Kd.S_drewN | apply Kd.S_drew)); exact HO_6.out)) (by decide) hg); have n1_ := Aside0.mk (hb); have n2_ := Aside0.mk (ho); clear HO_7 HB HO_6 HO607; have HO_7 := n0_; have HB := n1_; have HO612 := n2_; clear n0_ n1_ n2_ ho hb hg hat))
                      have n0_ := Aside0.mk (Kd.R_drew HO_7.out)
                      have n1_ := Aside0.mk (Kd.S_drew HO612.out)
                      have n2_ := Aside0.mk (below_drew1 HB.out)
                      clear HO_7 HO612 HB
                      have HO_7 := n0_
                      have HO612 := n1_
                      have HB := n2_
                      clear n0_ n1_ n2_
                      have p613 : 0 ≤ (x8_2 : Int) := of_decide_eq_true (by first | (with_reducible assumption) | assumption)
                      have q613 : x8_2 < (l1.length : Int) := of_decide_eq_true (by first | (with_reducible assumption) | assumption)
                      obtain ⟨ad613, e613, hx613_0, hx613_1⟩ := at_T27 HR1.out x8_2 p613 q613
                      have hw613_1 := hx613_1
                      have hw613_0 := hx613_0
                      obtain rfl : ad589 = ad613 := (by injection e613)
                      replace hx613_0 := (HB.out.cell (World.block_lt_of_cell? w _ hx613_0)).trans hx613_0
                      replace hx613_1 := (HB.out.cell (World.block_lt_of_cell? w _ hx613_1)).trans hx613_1
                      replace p613 := eq_true p613
                      replace q613 := eq_true q613
                      have p614 : 0 ≤ (x8_2 : Int) := of_decide_eq_true (by first | (with_reducible assumption) | assumption)
                      have q614 : x8_2 < (l1.length : Int) := of_decide_eq_true (by first | (with_reducible assumption) | assumption)
                      obtain ⟨ad614, e614, hx614_0, hx614_1⟩ := at_T27 HR1.out x8_2 p614 q614
                      have hw614_1 := hx614_1
                      have hw614_0 := hx614_0
                      obtain rfl : ad589 = ad614 := (by injection e614)
                      replace hx614_0 := (HB.out.cell (World.block_lt_of_cell? w _ hx614_0)).trans hx614_0
                      replace hx614_1 := (HB.out.cell (World.block_lt_of_cell? w _ hx614_1)).trans hx614_1
                      replace p614 := eq_true p614
                      replace q614 := eq_true q614
                      have p46 : 0 ≤ (x8_2 : Int) := of_decide_eq_true (by first | (with_reducible assumption) | assumption)
                      have q46 : (x8_2 : Int) < ((x7_19.length : Int) : Int) := of_decide_eq_true (by first | (with_reducible assumption) | assumption)
                      obtain ⟨go46, co46, eo46, gb46, gl46, cl46, HG46⟩ := Kd.R_form HO_7.out (by omega)
                      (first | cases eo46 | (injection eo46 with ea_ en_ ec_; (first | subst ea_ | (injection ea_ with ea_; subst ea_)); subst ec_; clear en_))
                      have GB46 := Aside0.mk gb46
                      have GG46 := Aside0.mk HG46
                      clear gb46 gl46 HG46
                      obtain ⟨ce46, hcl46, hM46, hcc46, hfr46⟩ := Kd.R_elem HO_7.out z27 (x8_2 : Int) p46 q46
                      obtain rfl := k27_openM hM46
                      have hx46_0 : World.cell? _ ⟨go46, (x8_2 : Int).toNat * 2, none⟩ = some (.int .i64 ((rd_T27 x7_19 x8_2).f0)) := hcc46 0 _ rfl
                      have hx46_1 : World.cell? _ ⟨go46, (x8_2 : Int).toNat * 2 + 1, none⟩ = some (.int .i64 ((rd_T27 x7_19 x8_2).f1)) := hcc46 1 _ rfl
                      have hf46_0 : World.frozen? _ ⟨go46, (x8_2 : Int).toNat * 2, none⟩ = false := hfr46 0
                      have hf46_1 : World.frozen? _ ⟨go46, (x8_2 : Int).toNat * 2 + 1, none⟩ = false := hfr46 1
                      clear hcl46 hcc46 hfr46 hM46
                      replace p46 := eq_true p46
                      replace q46 := eq_true q46
                      obtain ⟨ce65, hcl65, hM65, hcc65, hfr65⟩ := Kd.R_elem HO_7.out z27 (x8_2 : Int) (of_decide_eq_true (by first | (with_reducible assumption) | assumption)) (by have h_ : (x8_2 : Int) < ((x7_19.length : Int) : Int) := of_decide_eq_true (by first | (with_reducible assumption) | assumption); first | exact h_ | (have e_ := (Kd.R_reads' HO_7.out).1; omega) | simpa using h_)
                      obtain rfl := k27_openM hM65
                      have HP65 := (Kd.R_seg HO_7.out (x8_2 : Int) (of_decide_eq_true (by first | (with_reducible assumption) | assumption)) (by have h_ : (x8_2 : Int) < ((x7_19.length : Int) : Int) := of_decide_eq_true (by first | (with_reducible assumption) | assumption); first | exact h_ | (have e_ := (Kd.R_reads' HO_7.out).1; omega) | simpa using h_) (seg := [.int .i64 ji43, .int .i64 ji44]) (j := 0) hcl65 hcc65 (show 2 ≤ 2 from by decide) (x' := (⟨ji43, ji44⟩ : S27)) (k27_mkM _ _ _ (⟨ji43, ji44⟩ : S27) ) (fun _ hk => hk)).1
                      rw [← Ny615.out] at HP65
                      have HQ65 := Aside0.mk HP65
                      clear hcl65 hcc65 hfr65 hM65 HP65
                      refine start_ (n := 19) (S := fun w' => w'.cell? (ad589.add ((x8_2).toNat * 2)) = some (.int .i64 ((rd_T27 l1 x8_2).f0)) ∧ w'.cell? ⟨(ad589.add ((x8_2).toNat * 2)).block, (ad589.add ((x8_2).toNat * 2)).off + 1, none⟩ = some (.int .i64 ((rd_T27 l1 x8_2).f1)) ∧ w'.cell? (ad589.add ((x8_2).toNat * 2)) = some (.int .i64 ((rd_T27 l1 x8_2).f0)) ∧ w'.cell? ⟨(ad589.add ((x8_2).toNat * 2)).block, (ad589.add ((x8_2).toNat * 2)).off + 1, none⟩ = some (.int .i64 ((rd_T27 l1 x8_2).f1))) (ds := [18]) #[false, false, false, false, false, false, false, false, false, false, false, false, false, false, false, false, false, false, false] (by kernel_rfl) rfl rfl ⟨((HB.out.cell (World.block_lt_of_cell? w _ hw613_0)).trans hw613_0), ((HB.out.cell (World.block_lt_of_cell? w _ hw613_1)).trans hw613_1), ((HB.out.cell (World.block_lt_of_cell? w _ hw614_0)).trans hw614_0), ((HB.out.cell (World.block_lt_of_cell? w _ hw614_1)).trans hw614_1)⟩ (fun hHeld => ?_); refine with_tabW swashplateref01_Minus.tab19 swashplateref01_Minus.bits19 (fun HT_ HW_ => ?_)
                      generalize w63.drew = w64 at HO_7 HO612 HB GG46 HQ65 hf46_0 hf46_1 hx46_0 hx46_1 hx613_0 hx613_1 hx614_0 hx614_1 hHeld ⊢
                      refine pure_ (i := 0) (N := some 97) (v := ?_) (a' := ?_) #[true, false, false, false, false, false, false, false, false, false, false, false, false, false, false, false, false, false, false] rfl rfl (any_of HT_.out (by kernel_rfl)) (fun _ _ _ h => h) (Or.inl ⟨by rfl, ?_⟩) ?_ ?_
                      rotate_left
                      ·
                       intro w'
                       go_simp
                       with_reducible rfl
                      rotate_left
                      ·
                       simp only [Act.put, List.setIfInBounds_toArray, List.set_cons_zero, List.set_cons_succ, i64_w, i32_w]
                       rfl
                      refine pure_ (i := 1) (N := some 98) (v := ?_) (a' := ?_) #[true, true, false, false, false, false, false, false, false, false, false, false, false, false, false, false, false, false, false] rfl rfl (any_of HT_.out (by kernel_rfl)) (fun _ _ _ h => h) (Or.inl ⟨by rfl, ?_⟩) ?_ ?_
                      rotate_left
                      ·
                       intro w'
                       go_simp
                       with_reducible rfl
                      rotate_left
                      ·
                       simp only [Act.put, List.setIfInBounds_toArray, List.set_cons_zero, List.set_cons_succ, i64_w, i32_w]
                       rfl
                      refine pure_ (i := 2) (N := some 99) (v := ?_) (a' := ?_) #[true, true, true, false, false, false, false, false, false, false, false, false, false, false, false, false, false, false, false] rfl rfl (any_of HT_.out (by kernel_rfl)) (fun _ _ _ h => h) (Or.inl ⟨by rfl, ?_⟩) ?_ ?_
                      rotate_left
                      ·
                       intro w'
                       go_simp
                       with_reducible rfl
                      rotate_left
                      ·
                       simp only [Act.put, List.setIfInBounds_toArray, List.set_cons_zero, List.set_cons_succ, i64_w, i32_w]
                       rfl
                      refine pure_ (i := 3) (N := some 100) (v := ?_) (a' := ?_) #[true, true, true, true, false, false, false, false, false, false, false, false, false, false, false, false, false, false, false] rfl rfl (any_of HT_.out (by kernel_rfl)) (fun _ _ _ h => h) (Or.inl ⟨by rfl, ?_⟩) ?_ ?_
                      rotate_left
                      ·
                       intro w'
                       go_simp
                       with_reducible rfl
                      rotate_left
                      ·
                       simp only [Act.put, List.setIfInBounds_toArray, List.set_cons_zero, List.set_cons_succ, i64_w, i32_w]
                       rfl
                      refine pure_ (i := 4) (N := some 101) (v := ?_) (a' := ?_) #[true, true, true, true, true, false, false, false, false, false, false, false, false, false, false, false, false, false, false] rfl rfl (any_of HT_.out (by kernel_rfl)) (fun _ _ _ h => h) (Or.inl ⟨by rfl, ?_⟩) ?_ ?_
                      rotate_left
                      ·
                       intro w'
                       go_simp
                       with_reducible rfl
                      rotate_left
                      ·
                       simp only [Act.put, List.setIfInBounds_toArray, List.set_cons_zero, List.set_cons_succ, i64_w, i32_w]
                       rfl
                      refine pure_ (i := 5) (N := some 102) (v := ?_) (a' := ?_) #[true, true, true, true, true, true, false, false, false, false, false, false, false, false, false, false, false, false, false] rfl rfl (any_of HT_.out (by kernel_rfl)) (fun _ _ _ h => h) (Or.inl ⟨by rfl, ?_⟩) ?_ ?_
                      rotate_left
                      ·
                       intro w'
                       go_simp
                       with_reducible rfl
                      rotate_left
                      ·
                       simp only [Act.put, List.setIfInBounds_toArray, List.set_cons_zero, List.set_cons_succ, i64_w, i32_w]
                       rfl
                      refine pure_ (i := 6) (N := some 103) (v := ?_) (a' := ?_) #[true, true, true, true, true, true, true, false, false, false, false, false, false, false, false, false, false, false, false] rfl rfl (any_of HT_.out (by kernel_rfl)) (fun _ _ _ h => h) (Or.inl ⟨by rfl, ?_⟩) ?_ ?_
                      rotate_left
                      ·
                       intro w'
                       go_simp
                       with_reducible rfl
                      rotate_left
                      ·
                       simp only [Act.put, List.setIfInBounds_toArray, List.set_cons_zero, List.set_cons_succ, i64_w, i32_w]
                       rfl
                      refine pure_ (i := 9) (N := some 106) (v := ?_) (a' := ?_) #[true, true, true, true, true, true, true, false, false, true, false, false, false, false, false, false, false, false, false] rfl rfl (any_of HT_.out (by kernel_rfl)) (fun _ _ _ h => h) (Or.inl ⟨by rfl, ?_⟩) ?_ ?_
                      rotate_left
                      ·
                       intro w'
                       go_simp
                       with_reducible rfl
                      rotate_left
                      ·
                       simp only [Act.put, List.setIfInBounds_toArray, List.set_cons_zero, List.set_cons_succ, i64_w, i32_w]
                       rfl
                      refine pure_ (i := 10) (N := some 107) (v := ?_) (a' := ?_) #[true, true, true, true, true, true, true, false, false, true, true, false, false, false, false, false, false, false, false] rfl rfl (any_of HT_.out (by kernel_rfl)) (fun _ _ _ h => h) (Or.inl ⟨by rfl, ?_⟩) ?_ ?_
                      rotate_left
                      ·
                       intro w'
                       go_simp
                       with_reducible rfl
                      rotate_left
                      ·
                       simp only [Act.put, List.setIfInBounds_toArray, List.set_cons_zero, List.set_cons_succ, i64_w, i32_w]
                       rfl
                      refine pure_ (i := 11) (N := some 108) (v := ?_) (a' := ?_) #[true, true, true, true, true, true, true, false, false, true, true, true, false, false, false, false, false, false, false] rfl rfl (any_of HT_.out (by kernel_rfl)) (fun _ _ _ h => h) (Or.inl ⟨by rfl, ?_⟩) ?_ ?_
                      rotate_left
                      ·
                       intro w'
                       go_simp
                       with_reducible rfl
                      rotate_left
                      ·
                       simp only [Act.put, List.setIfInBounds_toArray, List.set_cons_zero, List.set_cons_succ, i64_w, i32_w]
                       rfl
                      refine pure_ (i := 12) (N := some 109) (v := ?_) (a' := ?_) #[true, true, true, true, true, true, true, false, false, true, true, true, true, false, false, false, false, false, false] rfl rfl (any_of HT_.out (by kernel_rfl)) (fun _ _ _ h => h) (Or.inl ⟨by rfl, ?_⟩) ?_ ?_
                      rotate_left
                      ·
                       intro w'
                       go_simp
                       with_reducible rfl
                      rotate_left
                      ·
                       simp only [Act.put, List.setIfInBounds_toArray, List.set_cons_zero, List.set_cons_succ, i64_w, i32_w]
                       rfl
                      refine pure_ (i := 13) (N := some 110) (v := ?_) (a' := ?_) #[true, true, true, true, true, true, true, false, false, true, true, true, true, true, false, false, false, false, false] rfl rfl (any_of HT_.out (by kernel_rfl)) (fun _ _ _ h => h) (Or.inl ⟨by rfl, ?_⟩) ?_ ?_
                      rotate_left
                      ·
                       intro w'
                       go_simp
                       with_reducible rfl
                      rotate_left
                      ·
                       simp only [Act.put, List.setIfInBounds_toArray, List.set_cons_zero, List.set_cons_succ, i64_w, i32_w]
                       rfl
                      refine take_ (i := 7) (N := some 104) (v := ?_) (a' := ?_) #[true, true, true, true, true, true, true, true, false, true, true, true, true, true, false, false, false, false, false] rfl rfl (take_ofW HT_.out HW_.out (by kernel_rfl)) (fun _ _ _ h => h) (Or.inl ⟨by rfl, ?_⟩) hHeld ?_ ?_
                      rotate_left
                      ·
                       rintro w' ⟨s0, s1, s2, s3⟩
                       go_simp
                       with_reducible rfl
                      rotate_left
                      ·
                       simp only [Act.put, List.setIfInBounds_toArray, List.set_cons_zero, List.set_cons_succ, i64_w, i32_w]
                       rfl
                      refine pure_ (i := 8) (N := some 105) (v := ?_) (a' := ?_) #[true, true, true, true, true, true, true, true, true, true, true, true, true, true, false, false, false, false, false] rfl rfl (any_of HT_.out (by kernel_rfl)) (fun _ _ _ h => h) (Or.inl ⟨by rfl, ?_⟩) ?_ ?_
                      rotate_left
                      ·
                       intro w'
                       go_simp
                       with_reducible rfl
                      rotate_left
                      ·
                       simp only [Act.put, List.setIfInBounds_toArray, List.set_cons_zero, List.set_cons_succ, i64_w, i32_w]
                       rfl
                      refine take_ (i := 14) (N := some 111) (v := ?_) (a' := ?_) #[true, true, true, true, true, true, true, true, true, true, true, true, true, true, true, false, false, false, false] rfl rfl (take_ofW HT_.out HW_.out (by kernel_rfl)) (fun _ _ _ h => h) (Or.inl ⟨by rfl, ?_⟩) hHeld ?_ ?_
                      rotate_left
                      ·
                       rintro w' ⟨s0, s1, s2, s3⟩
                       go_simp
                       with_reducible rfl
                      rotate_left
                      ·
                       simp only [Act.put, List.setIfInBounds_toArray, List.set_cons_zero, List.set_cons_succ, i64_w, i32_w]
                       rfl
                      refine pure_ (i := 15) (N := some 112) (v := ?_) (a' := ?_) #[true, true, true, true, true, true, true, true, true, true, true, true, true, true, true, true, false, false, false] rfl rfl (any_of HT_.out (by kernel_rfl)) (fun _ _ _ h => h) (Or.inl ⟨by rfl, ?_⟩) ?_ ?_
                      rotate_left
                      ·
                       intro w'
                       go_simp
                       with_reducible rfl
                      rotate_left
                      ·
                       simp only [Act.put, List.setIfInBounds_toArray, List.set_cons_zero, List.set_cons_succ, i64_w, i32_w]
                       rfl
                      refine pure_ (i := 16) (N := some 113) (v := ?_) (a' := ?_) #[true, true, true, true, true, true, true, true, true, true, true, true, true, true, true, true, true, false, false] rfl rfl (any_of HT_.out (by kernel_rfl)) (fun _ _ _ h => h) (Or.inl ⟨by rfl, ?_⟩) ?_ ?_
                      rotate_left
                      ·
                       intro w'
                       go_simp
                       with_reducible rfl
                      rotate_left
                      ·
                       simp only [Act.put, List.setIfInBounds_toArray, List.set_cons_zero, List.set_cons_succ, i64_w, i32_w]
                       rfl
                      refine pure_ (i := 17) (N := some 114) (v := ?_) (a' := ?_) #[true, true, true, true, true, true, true, true, true, true, true, true, true, true, true, true, true, true, false] rfl rfl (any_of HT_.out (by kernel_rfl)) (fun _ _ _ h => h) (Or.inl ⟨by rfl, ?_⟩) ?_ ?_
                      rotate_left
                      ·
                       intro w'
                       go_simp
                       with_reducible rfl
                      rotate_left
                      ·
                       simp only [Act.put, List.setIfInBounds_toArray, List.set_cons_zero, List.set_cons_succ, i64_w, i32_w]
                       rfl
                      refine last_ (i := 18) (N := none) #[true, true, true, true, true, true, true, true, true, true, true, true, true, true, true, true, true, true, true] rfl rfl (one_of HT_.out (by kernel_rfl)) (by decide) (fun K hK => ?_)
                      refine skip_ (w1 := ?_) (by rfl) rfl ?_ ?_
                      rotate_left
                      ·
                       go_simp
                       rfl
                      refine hK.out _ _ ?_
                      clear hK K
                      refine done_ (done_of HT_.out (by kernel_rfl)) ?_
                      try go_wp2
                      have n0_ : Aside0 (Kd.R k27 27 ((w64.setCell ⟨go46, (x8_2 : Int).toNat * 2, none⟩ (.int .i64 ji43)).setCell ⟨go46, (x8_2 : Int).toNat * 2 + 1, none⟩ (.int .i64 ji44)) w.heap.size (fun _ => True) (.slice (some ⟨go46, 0, none⟩) x7_19.length co22) y615) := ⟨by (with_reducible repeat (first | apply Kd.R_alloc | apply Kd.R_drewN | apply Kd.R_drew)); exact Kd.R_mono HQ65.out (fun _ hk => trivial)⟩
                      have n1_ : Aside0 (Kd.S (Kd.slice 27 k27) 38 ((w64.setCell ⟨go46, (x8_2 : Int).toNat * 2, none⟩ (.int .i64 ji43)).setCell ⟨go46, (x8_2 : Int).toNat * 2 + 1, none⟩ (.int .i64 ji44)) w.heap.size (fun k_ => some k_ ≠ (.slice (some ⟨go46, 0, none⟩) x7_19.length co22 : Value).ownBlock) v611 y610) := ⟨by (with_reducible repeat (first | apply Kd.S_alloc | apply Kd.S_drewN | apply Kd.S_drew)); exact Kd.S_mono (Kd.S_far (p := ⟨go46, (x8_2 : Int).toNat * 2 + 1, none⟩) (Kd.S_far (p := ⟨go46, (x8_2 : Int).toNat * 2, none⟩) (Kd.S_mono HO612.out (fun k_ hk => (⟨hk, fun e_ => hk (by rw [e_]; rfl)⟩ : _ ∧ k_ ≠ go46))) (fun _ hk => hk.2) (.int .i64 ji43)) (fun _ hk => hk.2) (.int .i64 ji44)) (fun _ hk => hk.1)⟩
                      have n2_ : Aside0 (Below w.heap.size w ((w64.setCell ⟨go46, (x8_2 : Int).toNat * 2, none⟩ (.int .i64 ji43)).setCell ⟨go46, (x8_2 : Int).toNat * 2 + 1, none⟩ (.int .i64 ji44))) := ⟨by repeat (first | (with_reducible first | exact HB.out | apply below_alloc | apply pw_below_drewN | apply below_drew1 | refine below_set ?_ GB46.out | refine below_set ?_ GB46.out) | exact HB.out)⟩
                      (try clear HO_7)
                      (try clear HO612)
                      (try clear HB)
                      generalize ((w64.setCell ⟨go46, (x8_2 : Int).toNat * 2, none⟩ (.int .i64 ji43)).setCell ⟨go46, (x8_2 : Int).toNat * 2 + 1, none⟩ (.int .i64 ji44)) = w66 at n0_ n1_ n2_ ⊢
                      have HO_7 := n0_
                      have HO612 := n1_
                      have HB := n2_
                      clear n0_ n1_ n2_
                      have n0_ := Aside0.mk (Kd.R_drew HO_7.out)
                      have n1_ := Aside0.mk (Kd.S_drew HO612.out)
                      have n2_ := Aside0.mk (below_drew1 HB.out)
                      clear HO_7 HO612 HB
                      have HO_7 := n0_
                      have HO612 := n1_
                      have HB := n2_
                      clear n0_ n1_ n2_
                      have p616 : 0 ≤ (x8_2 : Int) := of_decide_eq_true (by first | (with_reducible assumption) | assumption)
                      have q616 : x8_2 < (y615.length : Int) := (by have h_ : (x8_2 : Int) < ((x7_19.length : Int) : Int) := of_decide_eq_true (by first | (with_reducible assumption) | assumption); first | (have e_ := (Kd.R_reads' HO_7.out).1; omega) | simpa only [Ny615.out, List.length_set] using h_)
                      have ql616 : ((x8_2 : Int) < ((x7_19.length : Int) : Int)) = True := eq_true (of_decide_eq_true (by first | (with_reducible assumption) | assumption))
                      obtain ⟨ad616, e616, hx616_0, hx616_1⟩ := at_T27 (Kd.R_reads' HO_7.out).2.2 x8_2 p616 q616
                      obtain rfl : (⟨go46, 0, none⟩ : Addr) = ad616 := (by injection e616)
                      (first | simp only [add_plain] at hx616_0 | simp only [add_at] at hx616_0 | simp only [Addr.add, Nat.zero_add] at hx616_0 | skip)
                      (first | simp only [add_plain] at hx616_1 | simp only [add_at] at hx616_1 | simp only [Addr.add, Nat.zero_add] at hx616_1 | skip)
                      replace p616 := eq_true p616
                      replace q616 := eq_true q616
                      have p617 : 0 ≤ (x8_2 : Int) := of_decide_eq_true (by first | (with_reducible assumption) | assumption)
                      have q617 : x8_2 < (y615.length : Int) := (by have h_ : (x8_2 : Int) < ((x7_19.length : Int) : Int) := of_decide_eq_true (by first | (with_reducible assumption) | assumption); first | (have e_ := (Kd.R_reads' HO_7.out).1; omega) | simpa only [Ny615.out, List.length_set] using h_)
                      have ql617 : ((x8_2 : Int) < ((x7_19.length : Int) : Int)) = True := eq_true (of_decide_eq_true (by first | (with_reducible assumption) | assumption))
                      obtain ⟨ad617, e617, hx617_0, hx617_1⟩ := at_T27 (Kd.R_reads' HO_7.out).2.2 x8_2 p617 q617
                      obtain rfl : (⟨go46, 0, none⟩ : Addr) = ad617 := (by injection e617)
                      (first | simp only [add_plain] at hx617_0 | simp only [add_at] at hx617_0 | simp only [Addr.add, Nat.zero_add] at hx617_0 | skip)
                      (first | simp only [add_plain] at hx617_1 | simp only [add_at] at hx617_1 | simp only [Addr.add, Nat.zero_add] at hx617_1 | skip)
                      replace p617 := eq_true p617
                      replace q617 := eq_true q617
                      refine start_ (n := 11) (S := fun w' => w'.cell? ⟨go46, (x8_2).toNat * 2, none⟩ = some (.int .i64 ((rd_T27 y615 x8_2).f0)) ∧ w'.cell? ⟨go46, (x8_2).toNat * 2 + 1, none⟩ = some (.int .i64 ((rd_T27 y615 x8_2).f1)) ∧ w'.cell? ⟨go46, (x8_2).toNat * 2, none⟩ = some (.int .i64 ((rd_T27 y615 x8_2).f0)) ∧ w'.cell? ⟨go46, (x8_2).toNat * 2 + 1, none⟩ = some (.int .i64 ((rd_T27 y615 x8_2).f1))) (ds := []) #[false, false, false, false, false, false, false, false, false, false, false] (by kernel_rfl) rfl rfl ⟨hx616_0, hx616_1, hx617_0, hx617_1⟩ (fun hHeld => ?_); refine with_tabW swashplateref01_Minus.tab20 swashplateref01_Minus.bits20 (fun HT_ HW_ => ?_)
                      generalize w66.drew = w67 at HO_7 HO612 HB HQ65 hx616_0 hx616_1 hx617_0 hx617_1 hHeld ⊢
                      refine pure_ (i := 0) (N := some 115) (v := ?_) (a' := ?_) #[true, false, false, false, false, false, false, false, false, false, false] rfl rfl (any_of HT_.out (by kernel_rfl)) (fun _ _ _ h => h) (Or.inl ⟨by rfl, ?_⟩) ?_ ?_
                      rotate_left
                      ·
                       intro w'
                       go_simp
                       with_reducible rfl
                      rotate_left
                      ·
                       simp only [Act.put, List.setIfInBounds_toArray, List.set_cons_zero, List.set_cons_succ, i64_w, i32_w]
                       rfl
                      refine pure_ (i := 1) (N := some 116) (v := ?_) (a' := ?_) #[true, true, false, false, false, false, false, false, false, false, false] rfl rfl (any_of HT_.out (by kernel_rfl)) (fun _ _ _ h => h) (Or.inl ⟨by rfl, ?_⟩) ?_ ?_
                      rotate_left
                      ·
                       intro w'
                       go_simp
                       with_reducible rfl
                      rotate_left
                      ·
                       simp only [Act.put, List.setIfInBounds_toArray, List.set_cons_zero, List.set_cons_succ, i64_w, i32_w]
                       rfl
                      refine pure_ (i := 2) (N := some 117) (v := ?_) (a' := ?_) #[true, true, true, false, false, false, false, false, false, false, false] rfl rfl (any_of HT_.out (by kernel_rfl)) (fun _ _ _ h => h) (Or.inl ⟨by rfl, ?_⟩) ?_ ?_
                      rotate_left
                      ·
                       intro w'
                       go_simp
                       with_reducible rfl
                      rotate_left
                      ·
                       simp only [Act.put, List.setIfInBounds_toArray, List.set_cons_zero, List.set_cons_succ, i64_w, i32_w]
                       rfl
                      refine pure_ (i := 3) (N := some 118) (v := ?_) (a' := ?_) #[true, true, true, true, false, false, false, false, false, false, false] rfl rfl (any_of HT_.out (by kernel_rfl)) (fun _ _ _ h => h) (Or.inl ⟨by rfl, ?_⟩) ?_ ?_
                      rotate_left
                      ·
                       intro w'
                       go_simp
                       with_reducible rfl
                      rotate_left
                      ·
                       simp only [Act.put, List.setIfInBounds_toArray, List.set_cons_zero, List.set_cons_succ, i64_w, i32_w]
                       rfl
                      refine pure_ (i := 5) (N := some 120) (v := ?_) (a' := ?_) #[true, true, true, true, false, true, false, false, false, false, false] rfl rfl (any_of HT_.out (by kernel_rfl)) (fun _ _ _ h => h) (Or.inl ⟨by rfl, ?_⟩) ?_ ?_
                      rotate_left
                      ·
                       intro w'
                       go_simp
                       with_reducible rfl
                      rotate_left
                      ·
                       simp only [Act.put, List.setIfInBounds_toArray, List.set_cons_zero, List.set_cons_succ, i64_w, i32_w]
                       rfl
                      refine pure_ (i := 6) (N := some 121) (v := ?_) (a' := ?_) #[true, true, true, true, false, true, true, false, false, false, false] rfl rfl (any_of HT_.out (by kernel_rfl)) (fun _ _ _ h => h) (Or.inl ⟨by rfl, ?_⟩) ?_ ?_
                      rotate_left
                      ·
                       intro w'
                       go_simp
                       with_reducible rfl
                      rotate_left
                      ·
                       simp only [Act.put, List.setIfInBounds_toArray, List.set_cons_zero, List.set_cons_succ, i64_w, i32_w]
                       rfl
                      refine pure_ (i := 7) (N := some 122) (v := ?_) (a' := ?_) #[true, true, true, true, false, true, true, true, false, false, false] rfl rfl (any_of HT_.out (by kernel_rfl)) (fun _ _ _ h => h) (Or.inl ⟨by rfl, ?_⟩) ?_ ?_
                      rotate_left
                      ·
                       intro w'
                       go_simp
                       with_reducible rfl
                      rotate_left
                      ·
                       simp only [Act.put, List.setIfInBounds_toArray, List.set_cons_zero, List.set_cons_succ, i64_w, i32_w]
                       rfl
                      refine pure_ (i := 8) (N := some 123) (v := ?_) (a' := ?_) #[true, true, true, true, false, true, true, true, true, false, false] rfl rfl (any_of HT_.out (by kernel_rfl)) (fun _ _ _ h => h) (Or.inl ⟨by rfl, ?_⟩) ?_ ?_
                      rotate_left
                      ·
                       intro w'
                       go_simp
                       with_reducible rfl
                      rotate_left
                      ·
                       simp only [Act.put, List.setIfInBounds_toArray, List.set_cons_zero, List.set_cons_succ, i64_w, i32_w]
                       rfl
                      refine take_ (i := 4) (N := some 119) (v := ?_) (a' := ?_) #[true, true, true, true, true, true, true, true, true, false, false] rfl rfl (take_ofW HT_.out HW_.out (by kernel_rfl)) (fun _ _ _ h => h) (Or.inl ⟨by rfl, ?_⟩) hHeld ?_ ?_
                      rotate_left
                      ·
                       rintro w' ⟨s0, s1, s2, s3⟩
                       go_simp
                       with_reducible rfl
                      rotate_left
                      ·
                       simp only [Act.put, List.setIfInBounds_toArray, List.set_cons_zero, List.set_cons_succ, i64_w, i32_w]
                       rfl
                      refine take_ (i := 9) (N := some 124) (v := ?_) (a' := ?_) #[true, true, true, true, true, true, true, true, true, true, false] rfl rfl (take_ofW HT_.out HW_.out (by kernel_rfl)) (fun _ _ _ h => h) (Or.inl ⟨by rfl, ?_⟩) hHeld ?_ ?_
                      rotate_left
                      ·
                       rintro w' ⟨s0, s1, s2, s3⟩
                       go_simp
                       with_reducible rfl
                      rotate_left
                      ·
                       simp only [Act.put, List.setIfInBounds_toArray, List.set_cons_zero, List.set_cons_succ, i64_w, i32_w]
                       rfl
                      refine pure_ (i := 10) (N := some 125) (v := ?_) (a' := ?_) #[true, true, true, true, true, true, true, true, true, true, true] rfl rfl (any_of HT_.out (by kernel_rfl)) (fun _ _ _ h => h) (Or.inl ⟨by rfl, ?_⟩) ?_ ?_
                      rotate_left
                      ·
                       intro w'
                       go_simp
                       with_reducible rfl
                      rotate_left
                      ·
                       simp only [Act.put, List.setIfInBounds_toArray, List.set_cons_zero, List.set_cons_succ, i64_w, i32_w]
                       rfl
                      refine done_ (done_of HT_.out (by kernel_rfl)) ?_
                      try go_wp2
                      (try simp only [← hl7_19])
                      go_roundg kj19
                      case measure => have := HJ2.out; have := HK2.out; have := HJ19.out; omega
                      case rel => exact ⟨(y610), (y615), (wrap64 (x8_2 + 1)), (by first | rfl | (simp; done) | (simp [*]; done)), H', ⟨by have := HJ2.out; have := HK2.out; have := HJ19.out; omega⟩, ⟨by (try simp only [hl7_19]); (with_reducible repeat (first | apply Kd.S_alloc | apply Kd.S_drewN | apply Kd.S_drew)); exact HO612.out⟩, ⟨by (try simp only [hl7_19]); (with_reducible repeat (first | apply Kd.R_alloc | apply Kd.R_drewN | apply Kd.R_drew)); exact HO_7.out⟩, ⟨bl_ HB.out⟩⟩
                    ·
                     rw [if_neg c45] at H
                     exact absurd H (by simp)
                   ·
                    rw [if_neg c42] at H
                    exact absurd H (by simp)
                  ·
                   rw [if_neg c40] at H
                   exact absurd H (by simp)
                 ·
                  rw [if_neg c38] at H
                  exact absurd H (by simp)
                ·
                 rw [if_neg c37] at H
                 have c37b0 : decide (((rd_T27 l1 x8_2).f1) < ((rd_T27 x7_2 x8_2).f1)) = false := decide_eq_false c37
                 clear c37
                 obtain ⟨ji68, hji68⟩ : ∃ j_ : Int, (mx ((rd_T27 x7_2 x8_2).f0) ((rd_T27 l1 x8_2).f0)) = j_ := ⟨_, rfl⟩
                 replace H : (if x8_2 < (x7_19.length : Int) then ((some (x7_19.set (x8_2 : Int).toNat (⟨ji68, mn ((rd_T27 x7_2 x8_2).f1) ((rd_T27 l1 x8_2).f1)⟩ : S27) : List (S27))).bind fun y620 => (if ((rd_T27 y620 x8_2).f0) > ((rd_T27 y620 x8_2).f1) then (some (x6_19, 0)) else (swashplateref01_Minus.l0 kj19 l0 l1 x6_19 y620 (wrap64 (x8_2 + 1))))) else (none)) = some (r1, r2) := by first | (rw [hji68] at H; exact H) | (simp only [hji68] at H ⊢; exact H)
                 have hji68_ : (if ((rd_T27 x7_2 x8_2).f0) < ((rd_T27 l1 x8_2).f0) then ((rd_T27 l1 x8_2).f0) else ((rd_T27 x7_2 x8_2).f0)) = ji68 := hji68
                 obtain ⟨ji69, hji69⟩ : ∃ j_ : Int, (mn ((rd_T27 x7_2 x8_2).f1) ((rd_T27 l1 x8_2).f1)) = j_ := ⟨_, rfl⟩
                 replace H : (if x8_2 < (x7_19.length : Int) then ((some (x7_19.set (x8_2 : Int).toNat (⟨ji68, ji69⟩ : S27) : List (S27))).bind fun y620 => (if ((rd_T27 y620 x8_2).f0) > ((rd_T27 y620 x8_2).f1) then (some (x6_19, 0)) else (swashplateref01_Minus.l0 kj19 l0 l1 x6_19 y620 (wrap64 (x8_2 + 1))))) else (none)) = some (r1, r2) := by first | (rw [hji69] at H; exact H) | (simp only [hji69] at H ⊢; exact H)
                 have hji69_ : (if ((rd_T27 l1 x8_2).f1) < ((rd_T27 x7_2 x8_2).f1) then ((rd_T27 l1 x8_2).f1) else ((rd_T27 x7_2 x8_2).f1)) = ji69 := hji69
                 by_cases c70 : x8_2 < (x7_19.length : Int)
                 ·
                  rw [if_pos c70] at H
                  have c70b0 : decide (x8_2 < (x7_19.length : Int)) = true := decide_eq_true c70
                  clear c70
                  obtain ⟨y620, hy620⟩ : ∃ y_ : List (S27), y_ = (x7_19.set (x8_2 : Int).toNat (⟨ji68, ji69⟩ : S27)) := ⟨_, rfl⟩
                  replace H : (if ((rd_T27 y620 x8_2).f0) > ((rd_T27 y620 x8_2).f1) then (some (x6_19, 0)) else (swashplateref01_Minus.l0 kj19 l0 l1 x6_19 y620 (wrap64 (x8_2 + 1)))) = some (r1, r2) := by first | (rw [hy620]; with_reducible exact H) | (have H2_ := (Option.bind_some _ _).symm.trans H; rw [hy620]; with_reducible exact H2_) | (have H2_ := (Option.bind_some _ _).symm.trans H; with_reducible exact H2_) | with_reducible exact H | (rw [hy620]; exact H) | exact H
                  have Ny620 := Aside0.mk hy620
                  clear hy620
                  by_cases c72 : ((rd_T27 y620 x8_2).f0) > ((rd_T27 y620 x8_2).f1)
                  ·
                   rw [if_pos c72] at H
                   have c72b0 : decide (((rd_T27 y620 x8_2).f1) < ((rd_T27 y620 x8_2).f0)) = true := decide_eq_true c72
                   clear c72
                   simp only [Option.some.injEq, Prod.mk.injEq] at H
                   obtain ⟨rfl, rfl⟩ := H
                   have p601 : 0 ≤ (x8_2 : Int) := of_decide_eq_true (by first | (with_reducible assumption) | assumption)
                   have q601 : x8_2 < (l1.length : Int) := of_decide_eq_true (by first | (with_reducible assumption) | assumption)
                   obtain ⟨ad601, e601, hx601_0, hx601_1⟩ := at_T27 HR1.out x8_2 p601 q601
                   obtain rfl : ad589 = ad601 := (by injection e601)
                   replace hx601_0 := (HB.out.cell (World.block_lt_of_cell? w _ hx601_0)).trans hx601_0
                   replace hx601_1 := (HB.out.cell (World.block_lt_of_cell? w _ hx601_1)).trans hx601_1
                   replace p601 := eq_true p601
                   replace q601 := eq_true q601
                   try go_wp2
                   have n0_ := Aside0.mk (Kd.S_drew HO_6.out)
                   have n1_ := Aside0.mk (Kd.R_drew HO_7.out)
                   have n2_ := Aside0.mk (below_drew1 HB.out)
                   clear HO_6 HO_7 HB
                   have HO_6 := n0_
                   have HO_7 := n1_
                   have HB := n2_
                   clear n0_ n1_ n2_
                   have p618 : 0 ≤ (x8_2 : Int) := of_decide_eq_true (by first | (with_reducible assumption) | assumption)
                   have q618 : x8_2 < (l1.length : Int) := of_decide_eq_true (by first | (with_reducible assumption) | assumption)
                   obtain ⟨ad618, e618, hx618_0, hx618_1⟩ := at_T27 HR1.out x8_2 p618 q618
                   have hw618_1 := hx618_1
                   have hw618_0 := hx618_0
                   obtain rfl : ad589 = ad618 := (by injection e618)
                   replace hx618_0 := (HB.out.cell (World.block_lt_of_cell? w _ hx618_0)).trans hx618_0
                   replace hx618_1 := (HB.out.cell (World.block_lt_of_cell? w _ hx618_1)).trans hx618_1
                   replace p618 := eq_true p618
                   replace q618 := eq_true q618
                   have p619 : 0 ≤ (x8_2 : Int) := of_decide_eq_true (by first | (with_reducible assumption) | assumption)
                   have q619 : x8_2 < (l1.length : Int) := of_decide_eq_true (by first | (with_reducible assumption) | assumption)
                   obtain ⟨ad619, e619, hx619_0, hx619_1⟩ := at_T27 HR1.out x8_2 p619 q619
                   have hw619_1 := hx619_1
                   have hw619_0 := hx619_0
                   obtain rfl : ad589 = ad619 := (by injection e619)
                   replace hx619_0 := (HB.out.cell (World.block_lt_of_cell? w _ hx619_0)).trans hx619_0
                   replace hx619_1 := (HB.out.cell (World.block_lt_of_cell? w _ hx619_1)).trans hx619_1
                   replace p619 := eq_true p619
                   replace q619 := eq_true q619
                   have p71 : 0 ≤ (x8_2 : Int) := of_decide_eq_true (by first | (with_reducible assumption) | assumption)
                   have q71 : (x8_2 : Int) < ((x7_19.length : Int) : Int) := of_decide_eq_true (by first | (with_reducible assumption) | assumption)
                   obtain ⟨go71, co71, eo71, gb71, gl71, cl71, HG71⟩ := Kd.R_form HO_7.out (by omega)
                   (first | cases eo71 | (injection eo71 with ea_ en_ ec_; (first | subst ea_ | (injection ea_ with ea_; subst ea_)); subst ec_; clear en_))
                   have GB71 := Aside0.mk gb71
                   have GG71 := Aside0.mk HG71
                   clear gb71 gl71 HG71
                   obtain ⟨ce71, hcl71, hM71, hcc71, hfr71⟩ := Kd.R_elem HO_7.out z27 (x8_2 : Int) p71 q71
                   obtain rfl := k27_openM hM71
                   have hx71_0 : World.cell? _ ⟨go71, (x8_2 : Int).toNat * 2, none⟩ = some (.int .i64 ((rd_T27 x7_19 x8_2).f0)) := hcc71 0 _ rfl
                   have hx71_1 : World.cell? _ ⟨go71, (x8_2 : Int).toNat * 2 + 1, none⟩ = some (.int .i64 ((rd_T27 x7_19 x8_2).f1)) := hcc71 1 _ rfl
                   have hf71_0 : World.frozen? _ ⟨go71, (x8_2 : Int).toNat * 2, none⟩ = false := hfr71 0
                   have hf71_1 : World.frozen? _ ⟨go71, (x8_2 : Int).toNat * 2 + 1, none⟩ = false := hfr71 1
                   clear hcl71 hcc71 hfr71 hM71
                   replace p71 := eq_true p71
                   replace q71 := eq_true q71
                   obtain ⟨ce74, hcl74, hM74, hcc74, hfr74⟩ := Kd.R_elem HO_7.out z27 (x8_2 : Int) (of_decide_eq_true (by first | (with_reducible assumption) | assumption)) (by have h_ : (x8_2 : Int) < ((x7_19.length : Int) : Int) := of_decide_eq_true (by first | (with_reducible assumption) | assumption); first | exact h_ | (have e_ := (Kd.R_reads' HO_7.out).1; omega) | simpa using h_)
                   obtain rfl := k27_openM hM74
                   have HP74 := (Kd.R_seg HO_7.out (x8_2 : Int) (of_decide_eq_true (by first | (with_reducible assumption) | assumption)) (by have h_ : (x8_2 : Int) < ((x7_19.length : Int) : Int) := of_decide_eq_true (by first | (with_reducible assumption) | assumption); first | exact h_ | (have e_ := (Kd.R_reads' HO_7.out).1; omega) | simpa using h_) (seg := [.int .i64 ji68, .int .i64 ji69]) (j := 0) hcl74 hcc74 (show 2 ≤ 2 from by decide) (x' := (⟨ji68, ji69⟩ : S27)) (k27_mkM _ _ _ (⟨ji68, ji69⟩ : S27) ) (fun _ hk => hk)).1
                   rw [← Ny620.out] at HP74
                   have HQ74 := Aside0.mk HP74
                   clear hcl74 hcc74 hfr74 hM74 HP74
                   refine start_ (n := 19) (S := fun w' => w'.cell? (ad589.add ((x8_2).toNat * 2)) = some (.int .i64 ((rd_T27 l1 x8_2).f0)) ∧ w'.cell? ⟨(ad589.add ((x8_2).toNat * 2)).block, (ad589.add ((x8_2).toNat * 2)).off + 1, none⟩ = some (.int .i64 ((rd_T27 l1 x8_2).f1)) ∧ w'.cell? (ad589.add ((x8_2).toNat * 2)) = some (.int .i64 ((rd_T27 l1 x8_2).f0)) ∧ w'.cell? ⟨(ad589.add ((x8_2).toNat * 2)).block, (ad589.add ((x8_2).toNat * 2)).off + 1, none⟩ = some (.int .i64 ((rd_T27 l1 x8_2).f1))) (ds := [18]) #[false, false, false, false, false, false, false, false, false, false, false, false, false, false, false, false, false, false, false] (by kernel_rfl) rfl rfl ⟨((HB.out.cell (World.block_lt_of_cell? w _ hw618_0)).trans hw618_0), ((HB.out.cell (World.block_lt_of_cell? w _ hw618_1)).trans hw618_1), ((HB.out.cell (World.block_lt_of_cell? w _ hw619_0)).trans hw619_0), ((HB.out.cell (World.block_lt_of_cell? w _ hw619_1)).trans hw619_1)⟩ (fun hHeld => ?_); refine with_tabW swashplateref01_Minus.tab19 swashplateref01_Minus.bits19 (fun HT_ HW_ => ?_)
                   generalize wc.drew = w73 at HO_6 HO_7 HB GG71 HQ74 hf71_0 hf71_1 hx618_0 hx618_1 hx619_0 hx619_1 hx71_0 hx71_1 hHeld ⊢
                   refine pure_ (i := 0) (N := some 97) (v := ?_) (a' := ?_) #[true, false, false, false, false, false, false, false, false, false, false, false, false, false, false, false, false, false, false] rfl rfl (any_of HT_.out (by kernel_rfl)) (fun _ _ _ h => h) (Or.inl ⟨by rfl, ?_⟩) ?_ ?_
                   rotate_left
                   ·
                    intro w'
                    go_simp
                    with_reducible rfl
                   rotate_left
                   ·
                    simp only [Act.put, List.setIfInBounds_toArray, List.set_cons_zero, List.set_cons_succ, i64_w, i32_w]
                    rfl
                   refine pure_ (i := 1) (N := some 98) (v := ?_) (a' := ?_) #[true, true, false, false, false, false, false, false, false, false, false, false, false, false, false, false, false, false, false] rfl rfl (any_of HT_.out (by kernel_rfl)) (fun _ _ _ h => h) (Or.inl ⟨by rfl, ?_⟩) ?_ ?_
                   rotate_left
                   ·
                    intro w'
                    go_simp
                    with_reducible rfl
                   rotate_left
                   ·
                    simp only [Act.put, List.setIfInBounds_toArray, List.set_cons_zero, List.set_cons_succ, i64_w, i32_w]
                    rfl
                   refine pure_ (i := 2) (N := some 99) (v := ?_) (a' := ?_) #[true, true, true, false, false, false, false, false, false, false, false, false, false, false, false, false, false, false, false] rfl rfl (any_of HT_.out (by kernel_rfl)) (fun _ _ _ h => h) (Or.inl ⟨by rfl, ?_⟩) ?_ ?_
                   rotate_left
                   ·
                    intro w'
                    go_simp
                    with_reducible rfl
                   rotate_left
                   ·
                    simp only [Act.put, List.setIfInBounds_toArray, List.set_cons_zero, List.set_cons_succ, i64_w, i32_w]
                    rfl
                   refine pure_ (i := 3) (N := some 100) (v := ?_) (a' := ?_) #[true, true, true, true, false, false, false, false, false, false, false, false, false, false, false, false, false, false, false] rfl rfl (any_of HT_.out (by kernel_rfl)) (fun _ _ _ h => h) (Or.inl ⟨by rfl, ?_⟩) ?_ ?_
                   rotate_left
                   ·
                    intro w'
                    go_simp
                    with_reducible rfl
                   rotate_left
                   ·
                    simp only [Act.put, List.setIfInBounds_toArray, List.set_cons_zero, List.set_cons_succ, i64_w, i32_w]
                    rfl
                   refine pure_ (i := 4) (N := some 101) (v := ?_) (a' := ?_) #[true, true, true, true, true, false, false, false, false, false, false, false, false, false, false, false, false, false, false] rfl rfl (any_of HT_.out (by kernel_rfl)) (fun _ _ _ h => h) (Or.inl ⟨by rfl, ?_⟩) ?_ ?_
                   rotate_left
                   ·
                    intro w'
                    go_simp
                    with_reducible rfl
                   rotate_left
                   ·
                    simp only [Act.put, List.setIfInBounds_toArray, List.set_cons_zero, List.set_cons_succ, i64_w, i32_w]
                    rfl
                   refine pure_ (i := 5) (N := some 102) (v := ?_) (a' := ?_) #[true, true, true, true, true, true, false, false, false, false, false, false, false, false, false, false, false, false, false] rfl rfl (any_of HT_.out (by kernel_rfl)) (fun _ _ _ h => h) (Or.inl ⟨by rfl, ?_⟩) ?_ ?_
                   rotate_left
                   ·
                    intro w'
                    go_simp
                    with_reducible rfl
                   rotate_left
                   ·
                    simp only [Act.put, List.setIfInBounds_toArray, List.set_cons_zero, List.set_cons_succ, i64_w, i32_w]
                    rfl
                   refine pure_ (i := 6) (N := some 103) (v := ?_) (a' := ?_) #[true, true, true, true, true, true, true, false, false, false, false, false, false, false, false, false, false, false, false] rfl rfl (any_of HT_.out (by kernel_rfl)) (fun _ _ _ h => h) (Or.inl ⟨by rfl, ?_⟩) ?_ ?_
                   rotate_left
                   ·
                    intro w'
                    go_simp
                    with_reducible rfl
                   rotate_left
                   ·
                    simp only [Act.put, List.setIfInBounds_toArray, List.set_cons_zero, List.set_cons_succ, i64_w, i32_w]
                    rfl
                   refine pure_ (i := 9) (N := some 106) (v := ?_) (a' := ?_) #[true, true, true, true, true, true, true, false, false, true, false, false, false, false, false, false, false, false, false] rfl rfl (any_of HT_.out (by kernel_rfl)) (fun _ _ _ h => h) (Or.inl ⟨by rfl, ?_⟩) ?_ ?_
                   rotate_left
                   ·
                    intro w'
                    go_simp
                    with_reducible rfl
                   rotate_left
                   ·
                    simp only [Act.put, List.setIfInBounds_toArray, List.set_cons_zero, List.set_cons_succ, i64_w, i32_w]
                    rfl
                   refine pure_ (i := 10) (N := some 107) (v := ?_) (a' := ?_) #[true, true, true, true, true, true, true, false, false, true, true, false, false, false, false, false, false, false, false] rfl rfl (any_of HT_.out (by kernel_rfl)) (fun _ _ _ h => h) (Or.inl ⟨by rfl, ?_⟩) ?_ ?_
                   rotate_left
                   ·
                    intro w'
                    go_simp
                    with_reducible rfl
                   rotate_left
                   ·
                    simp only [Act.put, List.setIfInBounds_toArray, List.set_cons_zero, List.set_cons_succ, i64_w, i32_w]
                    rfl
                   refine pure_ (i := 11) (N := some 108) (v := ?_) (a' := ?_) #[true, true, true, true, true, true, true, false, false, true, true, true, false, false, false, false, false, false, false] rfl rfl (any_of HT_.out (by kernel_rfl)) (fun _ _ _ h => h) (Or.inl ⟨by rfl, ?_⟩) ?_ ?_
                   rotate_left
                   ·
                    intro w'
                    go_simp
                    with_reducible rfl
                   rotate_left
                   ·
                    simp only [Act.put, List.setIfInBounds_toArray, List.set_cons_zero, List.set_cons_succ, i64_w, i32_w]
                    rfl
                   refine pure_ (i := 12) (N := some 109) (v := ?_) (a' := ?_) #[true, true, true, true, true, true, true, false, false, true, true, true, true, false, false, false, false, false, false] rfl rfl (any_of HT_.out (by kernel_rfl)) (fun _ _ _ h => h) (Or.inl ⟨by rfl, ?_⟩) ?_ ?_
                   rotate_left
                   ·
                    intro w'
                    go_simp
                    with_reducible rfl
                   rotate_left
                   ·
                    simp only [Act.put, List.setIfInBounds_toArray, List.set_cons_zero, List.set_cons_succ, i64_w, i32_w]
                    rfl
                   refine pure_ (i := 13) (N := some 110) (v := ?_) (a' := ?_) #[true, true, true, true, true, true, true, false, false, true, true, true, true, true, false, false, false, false, false] rfl rfl (any_of HT_.out (by kernel_rfl)) (fun _ _ _ h => h) (Or.inl ⟨by rfl, ?_⟩) ?_ ?_
                   rotate_left
                   ·
                    intro w'
                    go_simp
                    with_reducible rfl
                   rotate_left
                   ·
                    simp only [Act.put, List.setIfInBounds_toArray, List.set_cons_zero, List.set_cons_succ, i64_w, i32_w]
                    rfl
                   refine take_ (i := 7) (N := some 104) (v := ?_) (a' := ?_) #[true, true, true, true, true, true, true, true, false, true, true, true, true, true, false, false, false, false, false] rfl rfl (take_ofW HT_.out HW_.out (by kernel_rfl)) (fun _ _ _ h => h) (Or.inl ⟨by rfl, ?_⟩) hHeld ?_ ?_
                   rotate_left
                   ·
                    rintro w' ⟨s0, s1, s2, s3⟩
                    go_simp
                    with_reducible rfl
                   rotate_left
                   ·
                    simp only [Act.put, List.setIfInBounds_toArray, List.set_cons_zero, List.set_cons_succ, i64_w, i32_w]
                    rfl
                   refine pure_ (i := 8) (N := some 105) (v := ?_) (a' := ?_) #[true, true, true, true, true, true, true, true, true, true, true, true, true, true, false, false, false, false, false] rfl rfl (any_of HT_.out (by kernel_rfl)) (fun _ _ _ h => h) (Or.inl ⟨by rfl, ?_⟩) ?_ ?_
                   rotate_left
                   ·
                    intro w'
                    go_simp
                    with_reducible rfl
                   rotate_left
                   ·
                    simp only [Act.put, List.setIfInBounds_toArray, List.set_cons_zero, List.set_cons_succ, i64_w, i32_w]
                    rfl
                   refine take_ (i := 14) (N := some 111) (v := ?_) (a' := ?_) #[true, true, true, true, true, true, true, true, true, true, true, true, true, true, true, false, false, false, false] rfl rfl (take_ofW HT_.out HW_.out (by kernel_rfl)) (fun _ _ _ h => h) (Or.inl ⟨by rfl, ?_⟩) hHeld ?_ ?_
                   rotate_left
                   ·
                    rintro w' ⟨s0, s1, s2, s3⟩
                    go_simp
                    with_reducible rfl
                   rotate_left
                   ·
                    simp only [Act.put, List.setIfInBounds_toArray, List.set_cons_zero, List.set_cons_succ, i64_w, i32_w]
                    rfl
                   refine pure_ (i := 15) (N := some 112) (v := ?_) (a' := ?_) #[true, true, true, true, true, true, true, true, true, true, true, true, true, true, true, true, false, false, false] rfl rfl (any_of HT_.out (by kernel_rfl)) (fun _ _ _ h => h) (Or.inl ⟨by rfl, ?_⟩) ?_ ?_
                   rotate_left
                   ·
                    intro w'
                    go_simp
                    with_reducible rfl
                   rotate_left
                   ·
                    simp only [Act.put, List.setIfInBounds_toArray, List.set_cons_zero, List.set_cons_succ, i64_w, i32_w]
                    rfl
                   refine pure_ (i := 16) (N := some 113) (v := ?_) (a' := ?_) #[true, true, true, true, true, true, true, true, true, true, true, true, true, true, true, true, true, false, false] rfl rfl (any_of HT_.out (by kernel_rfl)) (fun _ _ _ h => h) (Or.inl ⟨by rfl, ?_⟩) ?_ ?_
                   rotate_left
                   ·
                    intro w'
                    go_simp
                    with_reducible rfl
                   rotate_left
                   ·
                    simp only [Act.put, List.setIfInBounds_toArray, List.set_cons_zero, List.set_cons_succ, i64_w, i32_w]
                    rfl
                   refine pure_ (i := 17) (N := some 114) (v := ?_) (a' := ?_) #[true, true, true, true, true, true, true, true, true, true, true, true, true, true, true, true, true, true, false] rfl rfl (any_of HT_.out (by kernel_rfl)) (fun _ _ _ h => h) (Or.inl ⟨by rfl, ?_⟩) ?_ ?_
                   rotate_left
                   ·
                    intro w'
                    go_simp
                    with_reducible rfl
                   rotate_left
                   ·
                    simp only [Act.put, List.setIfInBounds_toArray, List.set_cons_zero, List.set_cons_succ, i64_w, i32_w]
                    rfl
                   refine last_ (i := 18) (N := none) #[true, true, true, true, true, true, true, true, true, true, true, true, true, true, true, true, true, true, true] rfl rfl (one_of HT_.out (by kernel_rfl)) (by decide) (fun K hK => ?_)
                   refine skip_ (w1 := ?_) (by rfl) rfl ?_ ?_
                   rotate_left
                   ·
                    go_simp
                    rfl
                   refine hK.out _ _ ?_
                   clear hK K
                   refine done_ (done_of HT_.out (by kernel_rfl)) ?_
                   try go_wp2
                   have n0_ : Aside0 (Kd.S (Kd.slice 27 k27) 38 ((w73.setCell ⟨go71, (x8_2 : Int).toNat * 2, none⟩ (.int .i64 ji68)).setCell ⟨go71, (x8_2 : Int).toNat * 2 + 1, none⟩ (.int .i64 ji69)) w.heap.size (fun k_ => some k_ ≠ (.slice (some ⟨go71, 0, none⟩) x7_19.length co22 : Value).ownBlock) u6 x6_19) := ⟨by (with_reducible repeat (first | apply Kd.S_alloc | apply Kd.S_drewN | apply Kd.S_drew)); exact Kd.S_mono (Kd.S_far (p := ⟨go71, (x8_2 : Int).toNat * 2 + 1, none⟩) (Kd.S_far (p := ⟨go71, (x8_2 : Int).toNat * 2, none⟩) (Kd.S_mono HO_6.out (fun k_ hk => (⟨hk, fun e_ => hk (by rw [e_]; rfl)⟩ : _ ∧ k_ ≠ go71))) (fun _ hk => hk.2) (.int .i64 ji68)) (fun _ hk => hk.2) (.int .i64 ji69)) (fun _ hk => hk.1)⟩
                   have n1_ : Aside0 (Kd.R k27 27 ((w73.setCell ⟨go71, (x8_2 : Int).toNat * 2, none⟩ (.int .i64 ji68)).setCell ⟨go71, (x8_2 : Int).toNat * 2 + 1, none⟩ (.int .i64 ji69)) w.heap.size (fun _ => True) (.slice (some ⟨go71, 0, none⟩) x7_19.length co22) y620) := ⟨by (with_reducible repeat (first | apply Kd.R_alloc | apply Kd.R_drewN | apply Kd.R_drew)); exact HQ74.out⟩
                   have n2_ : Aside0 (Below w.heap.size w ((w73.setCell ⟨go71, (x8_2 : Int).toNat * 2, none⟩ (.int .i64 ji68)).setCell ⟨go71, (x8_2 : Int).toNat * 2 + 1, none⟩ (.int .i64 ji69))) := ⟨by repeat (first | (with_reducible first | exact HB.out | apply below_alloc | apply pw_below_drewN | apply below_drew1 | refine below_set ?_ GB71.out | refine below_set ?_ GB71.out) | exact HB.out)⟩
                   (try clear HO_6)
                   (try clear HO_7)
                   (try clear HB)
                   generalize ((w73.setCell ⟨go71, (x8_2 : Int).toNat * 2, none⟩ (.int .i64 ji68)).setCell ⟨go71, (x8_2 : Int).toNat * 2 + 1, none⟩ (.int .i64 ji69)) = w75 at n0_ n1_ n2_ ⊢
                   have HO_6 := n0_
                   have HO_7 := n1_
                   have HB := n2_
                   clear n0_ n1_ n2_
                   have n0_ := Aside0.mk (Kd.S_drew HO_6.out)
                   have n1_ := Aside0.mk (Kd.R_drew HO_7.out)
                   have n2_ := Aside0.mk (below_drew1 HB.out)
                   clear HO_6 HO_7 HB
                   have HO_6 := n0_
                   have HO_7 := n1_
                   have HB := n2_
                   clear n0_ n1_ n2_
                   have p621 : 0 ≤ (x8_2 : Int) := of_decide_eq_true (by first | (with_reducible assumption) | assumption)
                   have q621 : x8_2 < (y620.length : Int) := (by have h_ : (x8_2 : Int) < ((x7_19.length : Int) : Int) := of_decide_eq_true (by first | (with_reducible assumption) | assumption); first | (have e_ := (Kd.R_reads' HO_7.out).1; omega) | simpa only [Ny620.out, List.length_set] using h_)
                   have ql621 : ((x8_2 : Int) < ((x7_19.length : Int) : Int)) = True := eq_true (of_decide_eq_true (by first | (with_reducible assumption) | assumption))
                   obtain ⟨ad621, e621, hx621_0, hx621_1⟩ := at_T27 (Kd.R_reads' HO_7.out).2.2 x8_2 p621 q621
                   obtain rfl : (⟨go71, 0, none⟩ : Addr) = ad621 := (by injection e621)
                   (first | simp only [add_plain] at hx621_0 | simp only [add_at] at hx621_0 | simp only [Addr.add, Nat.zero_add] at hx621_0 | skip)
                   (first | simp only [add_plain] at hx621_1 | simp only [add_at] at hx621_1 | simp only [Addr.add, Nat.zero_add] at hx621_1 | skip)
                   replace p621 := eq_true p621
                   replace q621 := eq_true q621
                   have p622 : 0 ≤ (x8_2 : Int) := of_decide_eq_true (by first | (with_reducible assumption) | assumption)
                   have q622 : x8_2 < (y620.length : Int) := (by have h_ : (x8_2 : Int) < ((x7_19.length : Int) : Int) := of_decide_eq_true (by first | (with_reducible assumption) | assumption); first | (have e_ := (Kd.R_reads' HO_7.out).1; omega) | simpa only [Ny620.out, List.length_set] using h_)
                   have ql622 : ((x8_2 : Int) < ((x7_19.length : Int) : Int)) = True := eq_true (of_decide_eq_true (by first | (with_reducible assumption) | assumption))
                   obtain ⟨ad622, e622, hx622_0, hx622_1⟩ := at_T27 (Kd.R_reads' HO_7.out).2.2 x8_2 p622 q622
                   obtain rfl : (⟨go71, 0, none⟩ : Addr) = ad622 := (by injection e622)
                   (first | simp only [add_plain] at hx622_0 | simp only [add_at] at hx622_0 | simp only [Addr.add, Nat.zero_add] at hx622_0 | skip)
                   (first | simp only [add_plain] at hx622_1 | simp only [add_at] at hx622_1 | simp only [Addr.add, Nat.zero_add] at hx622_1 | skip)
                   replace p622 := eq_true p622
                   replace q622 := eq_true q622
                   refine start_ (n := 11) (S := fun w' => w'.cell? ⟨go71, (x8_2).toNat * 2, none⟩ = some (.int .i64 ((rd_T27 y620 x8_2).f0)) ∧ w'.cell? ⟨go71, (x8_2).toNat * 2 + 1, none⟩ = some (.int .i64 ((rd_T27 y620 x8_2).f1)) ∧ w'.cell? ⟨go71, (x8_2).toNat * 2, none⟩ = some (.int .i64 ((rd_T27 y620 x8_2).f0)) ∧ w'.cell? ⟨go71, (x8_2).toNat * 2 + 1, none⟩ = some (.int .i64 ((rd_T27 y620 x8_2).f1))) (ds := []) #[false, false, false, false, false, false, false, false, false, false, false] (by kernel_rfl) rfl rfl ⟨hx621_0, hx621_1, hx622_0, hx622_1⟩ (fun hHeld => ?_); refine with_tabW swashplateref01_Minus.tab20 swashplateref01_Minus.bits20 (fun HT_ HW_ => ?_)
                   generalize w75.drew = w76 at HO_6 HO_7 HB HQ74 hx621_0 hx621_1 hx622_0 hx622_1 hHeld ⊢
                   refine pure_ (i := 0) (N := some 115) (v := ?_) (a' := ?_) #[true, false, false, false, false, false, false, false, false, false, false] rfl rfl (any_of HT_.out (by kernel_rfl)) (fun _ _ _ h => h) (Or.inl ⟨by rfl, ?_⟩) ?_ ?_
                   rotate_left
                   ·
                    intro w'
                    go_simp
                    with_reducible rfl
                   rotate_left
                   ·
                    simp only [Act.put, List.setIfInBounds_toArray, List.set_cons_zero, List.set_cons_succ, i64_w, i32_w]
                    rfl
                   refine pure_ (i := 1) (N := some 116) (v := ?_) (a' := ?_) #[true, true, false, false, false, false, false, false, false, false, false] rfl rfl (any_of HT_.out (by kernel_rfl)) (fun _ _ _ h => h) (Or.inl ⟨by rfl, ?_⟩) ?_ ?_
                   rotate_left
                   ·
                    intro w'
                    go_simp
                    with_reducible rfl
                   rotate_left
                   ·
                    simp only [Act.put, List.setIfInBounds_toArray, List.set_cons_zero, List.set_cons_succ, i64_w, i32_w]
                    rfl
                   refine pure_ (i := 2) (N := some 117) (v := ?_) (a' := ?_) #[true, true, true, false, false, false, false, false, false, false, false] rfl rfl (any_of HT_.out (by kernel_rfl)) (fun _ _ _ h => h) (Or.inl ⟨by rfl, ?_⟩) ?_ ?_
                   rotate_left
                   ·
                    intro w'
                    go_simp
                    with_reducible rfl
                   rotate_left
                   ·
                    simp only [Act.put, List.setIfInBounds_toArray, List.set_cons_zero, List.set_cons_succ, i64_w, i32_w]
                    rfl
                   refine pure_ (i := 3) (N := some 118) (v := ?_) (a' := ?_) #[true, true, true, true, false, false, false, false, false, false, false] rfl rfl (any_of HT_.out (by kernel_rfl)) (fun _ _ _ h => h) (Or.inl ⟨by rfl, ?_⟩) ?_ ?_
                   rotate_left
                   ·
                    intro w'
                    go_simp
                    with_reducible rfl
                   rotate_left
                   ·
                    simp only [Act.put, List.setIfInBounds_toArray, List.set_cons_zero, List.set_cons_succ, i64_w, i32_w]
                    rfl
                   refine pure_ (i := 5) (N := some 120) (v := ?_) (a' := ?_) #[true, true, true, true, false, true, false, false, false, false, false] rfl rfl (any_of HT_.out (by kernel_rfl)) (fun _ _ _ h => h) (Or.inl ⟨by rfl, ?_⟩) ?_ ?_
                   rotate_left
                   ·
                    intro w'
                    go_simp
                    with_reducible rfl
                   rotate_left
                   ·
                    simp only [Act.put, List.setIfInBounds_toArray, List.set_cons_zero, List.set_cons_succ, i64_w, i32_w]
                    rfl
                   refine pure_ (i := 6) (N := some 121) (v := ?_) (a' := ?_) #[true, true, true, true, false, true, true, false, false, false, false] rfl rfl (any_of HT_.out (by kernel_rfl)) (fun _ _ _ h => h) (Or.inl ⟨by rfl, ?_⟩) ?_ ?_
                   rotate_left
                   ·
                    intro w'
                    go_simp
                    with_reducible rfl
                   rotate_left
                   ·
                    simp only [Act.put, List.setIfInBounds_toArray, List.set_cons_zero, List.set_cons_succ, i64_w, i32_w]
                    rfl
                   refine pure_ (i := 7) (N := some 122) (v := ?_) (a' := ?_) #[true, true, true, true, false, true, true, true, false, false, false] rfl rfl (any_of HT_.out (by kernel_rfl)) (fun _ _ _ h => h) (Or.inl ⟨by rfl, ?_⟩) ?_ ?_
                   rotate_left
                   ·
                    intro w'
                    go_simp
                    with_reducible rfl
                   rotate_left
                   ·
                    simp only [Act.put, List.setIfInBounds_toArray, List.set_cons_zero, List.set_cons_succ, i64_w, i32_w]
                    rfl
                   refine pure_ (i := 8) (N := some 123) (v := ?_) (a' := ?_) #[true, true, true, true, false, true, true, true, true, false, false] rfl rfl (any_of HT_.out (by kernel_rfl)) (fun _ _ _ h => h) (Or.inl ⟨by rfl, ?_⟩) ?_ ?_
                   rotate_left
                   ·
                    intro w'
                    go_simp
                    with_reducible rfl
                   rotate_left
                   ·
                    simp only [Act.put, List.setIfInBounds_toArray, List.set_cons_zero, List.set_cons_succ, i64_w, i32_w]
                    rfl
                   refine take_ (i := 4) (N := some 119) (v := ?_) (a' := ?_) #[true, true, true, true, true, true, true, true, true, false, false] rfl rfl (take_ofW HT_.out HW_.out (by kernel_rfl)) (fun _ _ _ h => h) (Or.inl ⟨by rfl, ?_⟩) hHeld ?_ ?_
                   rotate_left
                   ·
                    rintro w' ⟨s0, s1, s2, s3⟩
                    go_simp
                    with_reducible rfl
                   rotate_left
                   ·
                    simp only [Act.put, List.setIfInBounds_toArray, List.set_cons_zero, List.set_cons_succ, i64_w, i32_w]
                    rfl
                   refine take_ (i := 9) (N := some 124) (v := ?_) (a' := ?_) #[true, true, true, true, true, true, true, true, true, true, false] rfl rfl (take_ofW HT_.out HW_.out (by kernel_rfl)) (fun _ _ _ h => h) (Or.inl ⟨by rfl, ?_⟩) hHeld ?_ ?_
                   rotate_left
                   ·
                    rintro w' ⟨s0, s1, s2, s3⟩
                    go_simp
                    with_reducible rfl
                   rotate_left
                   ·
                    simp only [Act.put, List.setIfInBounds_toArray, List.set_cons_zero, List.set_cons_succ, i64_w, i32_w]
                    rfl
                   refine pure_ (i := 10) (N := some 125) (v := ?_) (a' := ?_) #[true, true, true, true, true, true, true, true, true, true, true] rfl rfl (any_of HT_.out (by kernel_rfl)) (fun _ _ _ h => h) (Or.inl ⟨by rfl, ?_⟩) ?_ ?_
                   rotate_left
                   ·
                    intro w'
                    go_simp
                    with_reducible rfl
                   rotate_left
                   ·
                    simp only [Act.put, List.setIfInBounds_toArray, List.set_cons_zero, List.set_cons_succ, i64_w, i32_w]
                    rfl
                   refine done_ (done_of HT_.out (by kernel_rfl)) ?_
                   try go_wp2
                   go_ret2
                   exact ⟨_, by first | rfl | (simp [errW_none, errW_some] <;> rfl) | (simp only [← hji68, ← hji69]; first | rfl | (simp [errW_none, errW_some] <;> rfl)) | (simp [*, errW_none, errW_some] <;> rfl), by (with_reducible repeat (first | apply Kd.S_alloc | apply Kd.S_drewN | apply Kd.S_drew)); exact Kd.S_mono HO_6.out (fun _ hk => trivial), bl_ HB.out⟩
                  ·
                   rw [if_neg c72] at H
                   have c72b0 : decide (((rd_T27 y620 x8_2).f1) < ((rd_T27 y620 x8_2).f0)) = false := decide_eq_false c72
                   clear c72
                   have H' := Aside0.mk H
                   clear H
                   have p601 : 0 ≤ (x8_2 : Int) := of_decide_eq_true (by first | (with_reducible assumption) | assumption)
                   have q601 : x8_2 < (l1.length : Int) := of_decide_eq_true (by first | (with_reducible assumption) | assumption)
                   obtain ⟨ad601, e601, hx601_0, hx601_1⟩ := at_T27 HR1.out x8_2 p601 q601
                   obtain rfl : ad589 = ad601 := (by injection e601)
                   replace hx601_0 := (HB.out.cell (World.block_lt_of_cell? w _ hx601_0)).trans hx601_0
                   replace hx601_1 := (HB.out.cell (World.block_lt_of_cell? w _ hx601_1)).trans hx601_1
                   replace p601 := eq_true p601
                   replace q601 := eq_true q601
                   try go_wp2
                   have n0_ := Aside0.mk (Kd.S_drew HO_6.out)
                   have n1_ := Aside0.mk (Kd.R_drew HO_7.out)
                   have n2_ := Aside0.mk (below_drew1 HB.out)
                   clear HO_6 HO_7 HB
                   have HO_6 := n0_
                   have HO_7 := n1_
                   have HB := n2_
                   clear n0_ n1_ n2_
                   have p618 : 0 ≤ (x8_2 : Int) := of_decide_eq_true (by first | (with_reducible assumption) | assumption)
                   have q618 : x8_2 < (l1.length : Int) := of_decide_eq_true (by first | (with_reducible assumption) | assumption)
                   obtain ⟨ad618, e618, hx618_0, hx618_1⟩ := at_T27 HR1.out x8_2 p618 q618
                   have hw618_1 := hx618_1
                   have hw618_0 := hx618_0
                   obtain rfl : ad589 = ad618 := (by injection e618)
                   replace hx618_0 := (HB.out.cell (World.block_lt_of_cell? w _ hx618_0)).trans hx618_0
                   replace hx618_1 := (HB.out.cell (World.block_lt_of_cell? w _ hx618_1)).trans hx618_1
                   replace p618 := eq_true p618
                   replace q618 := eq_true q618
                   have p619 : 0 ≤ (x8_2 : Int) := of_decide_eq_true (by first | (with_reducible assumption) | assumption)
                   have q619 : x8_2 < (l1.length : Int) := of_decide_eq_true (by first | (with_reducible assumption) | assumption)
                   obtain ⟨ad619, e619, hx619_0, hx619_1⟩ := at_T27 HR1.out x8_2 p619 q619
                   have hw619_1 := hx619_1
                   have hw619_0 := hx619_0
                   obtain rfl : ad589 = ad619 := (by injection e619)
                   replace hx619_0 := (HB.out.cell (World.block_lt_of_cell? w _ hx619_0)).trans hx619_0
                   replace hx619_1 := (HB.out.cell (World.block_lt_of_cell? w _ hx619_1)).trans hx619_1
                   replace p619 := eq_true p619
                   replace q619 := eq_true q619
                   have p71 : 0 ≤ (x8_2 : Int) := of_decide_eq_true (by first | (with_reducible assumption) | assumption)
                   have q71 : (x8_2 : Int) < ((x7_19.length : Int) : Int) := of_decide_eq_true (by first | (with_reducible assumption) | assumption)
                   obtain ⟨go71, co71, eo71, gb71, gl71, cl71, HG71⟩ := Kd.R_form HO_7.out (by omega)
                   (first | cases eo71 | (injection eo71 with ea_ en_ ec_; (first | subst ea_ | (injection ea_ with ea_; subst ea_)); subst ec_; clear en_))
                   have GB71 := Aside0.mk gb71
                   have GG71 := Aside0.mk HG71
                   clear gb71 gl71 HG71
                   obtain ⟨ce71, hcl71, hM71, hcc71, hfr71⟩ := Kd.R_elem HO_7.out z27 (x8_2 : Int) p71 q71
                   obtain rfl := k27_openM hM71
                   have hx71_0 : World.cell? _ ⟨go71, (x8_2 : Int).toNat * 2, none⟩ = some (.int .i64 ((rd_T27 x7_19 x8_2).f0)) := hcc71 0 _ rfl
                   have hx71_1 : World.cell? _ ⟨go71, (x8_2 : Int).toNat * 2 + 1, none⟩ = some (.int .i64 ((rd_T27 x7_19 x8_2).f1)) := hcc71 1 _ rfl
                   have hf71_0 : World.frozen? _ ⟨go71, (x8_2 : Int).toNat * 2, none⟩ = false := hfr71 0
                   have hf71_1 : World.frozen? _ ⟨go71, (x8_2 : Int).toNat * 2 + 1, none⟩ = false := hfr71 1
                   clear hcl71 hcc71 hfr71 hM71
                   replace p71 := eq_true p71
                   replace q71 := eq_true q71
                   obtain ⟨ce78, hcl78, hM78, hcc78, hfr78⟩ := Kd.R_elem HO_7.out z27 (x8_2 : Int) (of_decide_eq_true (by first | (with_reducible assumption) | assumption)) (by have h_ : (x8_2 : Int) < ((x7_19.length : Int) : Int) := of_decide_eq_true (by first | (with_reducible assumption) | assumption); first | exact h_ | (have e_ := (Kd.R_reads' HO_7.out).1; omega) | simpa using h_)
                   obtain rfl := k27_openM hM78
                   have HP78 := (Kd.R_seg HO_7.out (x8_2 : Int) (of_decide_eq_true (by first | (with_reducible assumption) | assumption)) (by have h_ : (x8_2 : Int) < ((x7_19.length : Int) : Int) := of_decide_eq_true (by first | (with_reducible assumption) | assumption); first | exact h_ | (have e_ := (Kd.R_reads' HO_7.out).1; omega) | simpa using h_) (seg := [.int .i64 ji68, .int .i64 ji69]) (j := 0) hcl78 hcc78 (show 2 ≤ 2 from by decide) (x' := (⟨ji68, ji69⟩ : S27)) (k27_mkM _ _ _ (⟨ji68, ji69⟩ : S27) ) (fun _ hk => hk)).1
                   rw [← Ny620.out] at HP78
                   have HQ78 := Aside0.mk HP78
                   clear hcl78 hcc78 hfr78 hM78 HP78
                   refine start_ (n := 19) (S := fun w' => w'.cell? (ad589.add ((x8_2).toNat * 2)) = some (.int .i64 ((rd_T27 l1 x8_2).f0)) ∧ w'.cell? ⟨(ad589.add ((x8_2).toNat * 2)).block, (ad589.add ((x8_2).toNat * 2)).off + 1, none⟩ = some (.int .i64 ((rd_T27 l1 x8_2).f1)) ∧ w'.cell? (ad589.add ((x8_2).toNat * 2)) = some (.int .i64 ((rd_T27 l1 x8_2).f0)) ∧ w'.cell? ⟨(ad589.add ((x8_2).toNat * 2)).block, (ad589.add ((x8_2).toNat * 2)).off + 1, none⟩ = some (.int .i64 ((rd_T27 l1 x8_2).f1))) (ds := [18]) #[false, false, false, false, false, false, false, false, false, false, false, false, false, false, false, false, false, false, false] (by kernel_rfl) rfl rfl ⟨((HB.out.cell (World.block_lt_of_cell? w _ hw618_0)).trans hw618_0), ((HB.out.cell (World.block_lt_of_cell? w _ hw618_1)).trans hw618_1), ((HB.out.cell (World.block_lt_of_cell? w _ hw619_0)).trans hw619_0), ((HB.out.cell (World.block_lt_of_cell? w _ hw619_1)).trans hw619_1)⟩ (fun hHeld => ?_); refine with_tabW swashplateref01_Minus.tab19 swashplateref01_Minus.bits19 (fun HT_ HW_ => ?_)
                   generalize wc.drew = w77 at HO_6 HO_7 HB GG71 HQ78 hf71_0 hf71_1 hx618_0 hx618_1 hx619_0 hx619_1 hx71_0 hx71_1 hHeld ⊢
                   refine pure_ (i := 0) (N := some 97) (v := ?_) (a' := ?_) #[true, false, false, false, false, false, false, false, false, false, false, false, false, false, false, false, false, false, false] rfl rfl (any_of HT_.out (by kernel_rfl)) (fun _ _ _ h => h) (Or.inl ⟨by rfl, ?_⟩) ?_ ?_
                   rotate_left
                   ·
                    intro w'
                    go_simp
                    with_reducible rfl
                   rotate_left
                   ·
                    simp only [Act.put, List.setIfInBounds_toArray, List.set_cons_zero, List.set_cons_succ, i64_w, i32_w]
                    rfl
                   refine pure_ (i := 1) (N := some 98) (v := ?_) (a' := ?_) #[true, true, false, false, false, false, false, false, false, false, false, false, false, false, false, false, false, false, false] rfl rfl (any_of HT_.out (by kernel_rfl)) (fun _ _ _ h => h) (Or.inl ⟨by rfl, ?_⟩) ?_ ?_
                   rotate_left
                   ·
                    intro w'
                    go_simp
                    with_reducible rfl
                   rotate_left
                   ·
                    simp only [Act.put, List.setIfInBounds_toArray, List.set_cons_zero, List.set_cons_succ, i64_w, i32_w]
                    rfl
                   refine pure_ (i := 2) (N := some 99) (v := ?_) (a' := ?_) #[true, true, true, false, false, false, false, false, false, false, false, false, false, false, false, false, false, false, false] rfl rfl (any_of HT_.out (by kernel_rfl)) (fun _ _ _ h => h) (Or.inl ⟨by rfl, ?_⟩) ?_ ?_
                   rotate_left
                   ·
                    intro w'
                    go_simp
                    with_reducible rfl
                   rotate_left
                   ·
                    simp only [Act.put, List.setIfInBounds_toArray, List.set_cons_zero, List.set_cons_succ, i64_w, i32_w]
                    rfl
                   refine pure_ (i := 3) (N := some 100) (v := ?_) (a' := ?_) #[true, true, true, true, false, false, false, false, false, false, false, false, false, false, false, false, false, false, false] rfl rfl (any_of HT_.out (by kernel_rfl)) (fun _ _ _ h => h) (Or.inl ⟨by rfl, ?_⟩) ?_ ?_
                   rotate_left
                   ·
                    intro w'
                    go_simp
                    with_reducible rfl
                   rotate_left
                   ·
                    simp only [Act.put, List.setIfInBounds_toArray, List.set_cons_zero, List.set_cons_succ, i64_w, i32_w]
                    rfl
                   refine pure_ (i := 4) (N := some 101) (v := ?_) (a' := ?_) #[true, true, true, true, true, false, false, false, false, false, false, false, false, false, false, false, false, false, false] rfl rfl (any_of HT_.out (by kernel_rfl)) (fun _ _ _ h => h) (Or.inl ⟨by rfl, ?_⟩) ?_ ?_
                   rotate_left
                   ·
                    intro w'
                    go_simp
                    with_reducible rfl
                   rotate_left
                   ·
                    simp only [Act.put, List.setIfInBounds_toArray, List.set_cons_zero, List.set_cons_succ, i64_w, i32_w]
                    rfl
                   refine pure_ (i := 5) (N := some 102) (v := ?_) (a' := ?_) #[true, true, true, true, true, true, false, false, false, false, false, false, false, false, false, false, false, false, false] rfl rfl (any_of HT_.out (by kernel_rfl)) (fun _ _ _ h => h) (Or.inl ⟨by rfl, ?_⟩) ?_ ?_
                   rotate_left
                   ·
                    intro w'
                    go_simp
                    with_reducible rfl
                   rotate_left
                   ·
                    simp only [Act.put, List.setIfInBounds_toArray, List.set_cons_zero, List.set_cons_succ, i64_w, i32_w]
                    rfl
                   refine pure_ (i := 6) (N := some 103) (v := ?_) (a' := ?_) #[true, true, true, true, true, true, true, false, false, false, false, false, false, false, false, false, false, false, false] rfl rfl (any_of HT_.out (by kernel_rfl)) (fun _ _ _ h => h) (Or.inl ⟨by rfl, ?_⟩) ?_ ?_
                   rotate_left
                   ·
                    intro w'
                    go_simp
                    with_reducible rfl
                   rotate_left
                   ·
                    simp only [Act.put, List.setIfInBounds_toArray, List.set_cons_zero, List.set_cons_succ, i64_w, i32_w]
                    rfl
                   refine pure_ (i := 9) (N := some 106) (v := ?_) (a' := ?_) #[true, true, true, true, true, true, true, false, false, true, false, false, false, false, false, false, false, false, false] rfl rfl (any_of HT_.out (by kernel_rfl)) (fun _ _ _ h => h) (Or.inl ⟨by rfl, ?_⟩) ?_ ?_
                   rotate_left
                   ·
                    intro w'
                    go_simp
                    with_reducible rfl
                   rotate_left
                   ·
                    simp only [Act.put, List.setIfInBounds_toArray, List.set_cons_zero, List.set_cons_succ, i64_w, i32_w]
                    rfl
                   refine pure_ (i := 10) (N := some 107) (v := ?_) (a' := ?_) #[true, true, true, true, true, true, true, false, false, true, true, false, false, false, false, false, false, false, false] rfl rfl (any_of HT_.out (by kernel_rfl)) (fun _ _ _ h => h) (Or.inl ⟨by rfl, ?_⟩) ?_ ?_
                   rotate_left
                   ·
                    intro w'
                    go_simp
                    with_reducible rfl
                   rotate_left
                   ·
                    simp only [Act.put, List.setIfInBounds_toArray, List.set_cons_zero, List.set_cons_succ, i64_w, i32_w]
                    rfl
                   refine pure_ (i := 11) (N := some 108) (v := ?_) (a' := ?_) #[true, true, true, true, true, true, true, false, false, true, true, true, false, false, false, false, false, false, false] rfl rfl (any_of HT_.out (by kernel_rfl)) (fun _ _ _ h => h) (Or.inl ⟨by rfl, ?_⟩) ?_ ?_
                   rotate_left
                   ·
                    intro w'
                    go_simp
                    with_reducible rfl
                   rotate_left
                   ·
                    simp only [Act.put, List.setIfInBounds_toArray, List.set_cons_zero, List.set_cons_succ, i64_w, i32_w]
                    rfl
                   refine pure_ (i := 12) (N := some 109) (v := ?_) (a' := ?_) #[true, true, true, true, true, true, true, false, false, true, true, true, true, false, false, false, false, false, false] rfl rfl (any_of HT_.out (by kernel_rfl)) (fun _ _ _ h => h) (Or.inl ⟨by rfl, ?_⟩) ?_ ?_
                   rotate_left
                   ·
                    intro w'
                    go_simp
                    with_reducible rfl
                   rotate_left
                   ·
                    simp only [Act.put, List.setIfInBounds_toArray, List.set_cons_zero, List.set_cons_succ, i64_w, i32_w]
                    rfl
                   refine pure_ (i := 13) (N := some 110) (v := ?_) (a' := ?_) #[true, true, true, true, true, true, true, false, false, true, true, true, true, true, false, false, false, false, false] rfl rfl (any_of HT_.out (by kernel_rfl)) (fun _ _ _ h => h) (Or.inl ⟨by rfl, ?_⟩) ?_ ?_
                   rotate_left
                   ·
                    intro w'
                    go_simp
                    with_reducible rfl
                   rotate_left
                   ·
                    simp only [Act.put, List.setIfInBounds_toArray, List.set_cons_zero, List.set_cons_succ, i64_w, i32_w]
                    rfl
                   refine take_ (i := 7) (N := some 104) (v := ?_) (a' := ?_) #[true, true, true, true, true, true, true, true, false, true, true, true, true, true, false, false, false, false, false] rfl rfl (take_ofW HT_.out HW_.out (by kernel_rfl)) (fun _ _ _ h => h) (Or.inl ⟨by rfl, ?_⟩) hHeld ?_ ?_
                   rotate_left
                   ·
                    rintro w' ⟨s0, s1, s2, s3⟩
                    go_simp
                    with_reducible rfl
                   rotate_left
                   ·
                    simp only [Act.put, List.setIfInBounds_toArray, List.set_cons_zero, List.set_cons_succ, i64_w, i32_w]
                    rfl
                   refine pure_ (i := 8) (N := some 105) (v := ?_) (a' := ?_) #[true, true, true, true, true, true, true, true, true, true, true, true, true, true, false, false, false, false, false] rfl rfl (any_of HT_.out (by kernel_rfl)) (fun _ _ _ h => h) (Or.inl ⟨by rfl, ?_⟩) ?_ ?_
                   rotate_left
                   ·
                    intro w'
                    go_simp
                    with_reducible rfl
                   rotate_left
                   ·
                    simp only [Act.put, List.setIfInBounds_toArray, List.set_cons_zero, List.set_cons_succ, i64_w, i32_w]
                    rfl
                   refine take_ (i := 14) (N := some 111) (v := ?_) (a' := ?_) #[true, true, true, true, true, true, true, true, true, true, true, true, true, true, true, false, false, false, false] rfl rfl (take_ofW HT_.out HW_.out (by kernel_rfl)) (fun _ _ _ h => h) (Or.inl ⟨by rfl, ?_⟩) hHeld ?_ ?_
                   rotate_left
                   ·
                    rintro w' ⟨s0, s1, s2, s3⟩
                    go_simp
                    with_reducible rfl
                   rotate_left
                   ·
                    simp only [Act.put, List.setIfInBounds_toArray, List.set_cons_zero, List.set_cons_succ, i64_w, i32_w]
                    rfl
                   refine pure_ (i := 15) (N := some 112) (v := ?_) (a' := ?_) #[true, true, true, true, true, true, true, true, true, true, true, true, true, true, true, true, false, false, false] rfl rfl (any_of HT_.out (by kernel_rfl)) (fun _ _ _ h => h) (Or.inl ⟨by rfl, ?_⟩) ?_ ?_
                   rotate_left
                   ·
                    intro w'
                    go_simp
                    with_reducible rfl
                   rotate_left
                   ·
                    simp only [Act.put, List.setIfInBounds_toArray, List.set_cons_zero, List.set_cons_succ, i64_w, i32_w]
                    rfl
                   refine pure_ (i := 16) (N := some 113) (v := ?_) (a' := ?_) #[true, true, true, true, true, true, true, true, true, true, true, true, true, true, true, true, true, false, false] rfl rfl (any_of HT_.out (by kernel_rfl)) (fun _ _ _ h => h) (Or.inl ⟨by rfl, ?_⟩) ?_ ?_
                   rotate_left
                   ·
                    intro w'
                    go_simp
                    with_reducible rfl
                   rotate_left
                   ·
                    simp only [Act.put, List.setIfInBounds_toArray, List.set_cons_zero, List.set_cons_succ, i64_w, i32_w]
                    rfl
                   refine pure_ (i := 17) (N := some 114) (v := ?_) (a' := ?_) #[true, true, true, true, true, true, true, true, true, true, true, true, true, true, true, true, true, true, false] rfl rfl (any_of HT_.out (by kernel_rfl)) (fun _ _ _ h => h) (Or.inl ⟨by rfl, ?_⟩) ?_ ?_
                   rotate_left
                   ·
                    intro w'
                    go_simp
                    with_reducible rfl
                   rotate_left
                   ·
                    simp only [Act.put, List.setIfInBounds_toArray, List.set_cons_zero, List.set_cons_succ, i64_w, i32_w]
                    rfl
                   refine last_ (i := 18) (N := none) #[true, true, true, true, true, true, true, true, true, true, true, true, true, true, true, true, true, true, true] rfl rfl (one_of HT_.out (by kernel_rfl)) (by decide) (fun K hK => ?_)
                   refine skip_ (w1 := ?_) (by rfl) rfl ?_ ?_
                   rotate_left
                   ·
                    go_simp
                    rfl
                   refine hK.out _ _ ?_
                   clear hK K
                   refine done_ (done_of HT_.out (by kernel_rfl)) ?_
                   try go_wp2
                   have n0_ : Aside0 (Kd.S (Kd.slice 27 k27) 38 ((w77.setCell ⟨go71, (x8_2 : Int).toNat * 2, none⟩ (.int .i64 ji68)).setCell ⟨go71, (x8_2 : Int).toNat * 2 + 1, none⟩ (.int .i64 ji69)) w.heap.size (fun k_ => some k_ ≠ (.slice (some ⟨go71, 0, none⟩) x7_19.length co22 : Value).ownBlock) u6 x6_19) := ⟨by (with_reducible repeat (first | apply Kd.S_alloc | apply Kd.S_drewN | apply Kd.S_drew)); exact Kd.S_mono (Kd.S_far (p := ⟨go71, (x8_2 : Int).toNat * 2 + 1, none⟩) (Kd.S_far (p := ⟨go71, (x8_2 : Int).toNat * 2, none⟩) (Kd.S_mono HO_6.out (fun k_ hk => (⟨hk, fun e_ => hk (by rw [e_]; rfl)⟩ : _ ∧ k_ ≠ go71))) (fun _ hk => hk.2) (.int .i64 ji68)) (fun _ hk => hk.2) (.int .i64 ji69)) (fun _ hk => hk.1)⟩
                   have n1_ : Aside0 (Kd.R k27 27 ((w77.setCell ⟨go71, (x8_2 : Int).toNat * 2, none⟩ (.int .i64 ji68)).setCell ⟨go71, (x8_2 : Int).toNat * 2 + 1, none⟩ (.int .i64 ji69)) w.heap.size (fun _ => True) (.slice (some ⟨go71, 0, none⟩) x7_19.length co22) y620) := ⟨by (with_reducible repeat (first | apply Kd.R_alloc | apply Kd.R_drewN | apply Kd.R_drew)); exact HQ78.out⟩
                   have n2_ : Aside0 (Below w.heap.size w ((w77.setCell ⟨go71, (x8_2 : Int).toNat * 2, none⟩ (.int .i64 ji68)).setCell ⟨go71, (x8_2 : Int).toNat * 2 + 1, none⟩ (.int .i64 ji69))) := ⟨by repeat (first | (with_reducible first | exact HB.out | apply below_alloc | apply pw_below_drewN | apply below_drew1 | refine below_set ?_ GB71.out | refine below_set ?_ GB71.out) | exact HB.out)⟩
                   (try clear HO_6)
                   (try clear HO_7)
                   (try clear HB)
                   generalize ((w77.setCell ⟨go71, (x8_2 : Int).toNat * 2, none⟩ (.int .i64 ji68)).setCell ⟨go71, (x8_2 : Int).toNat * 2 + 1, none⟩ (.int .i64 ji69)) = w79 at n0_ n1_ n2_ ⊢
                   have HO_6 := n0_
                   have HO_7 := n1_
                   have HB := n2_
                   clear n0_ n1_ n2_
                   have n0_ := Aside0.mk (Kd.S_drew HO_6.out)
                   have n1_ := Aside0.mk (Kd.R_drew HO_7.out)
                   have n2_ := Aside0.mk (below_drew1 HB.out)
                   clear HO_6 HO_7 HB
                   have HO_6 := n0_
                   have HO_7 := n1_
                   have HB := n2_
                   clear n0_ n1_ n2_
                   have p621 : 0 ≤ (x8_2 : Int) := of_decide_eq_true (by first | (with_reducible assumption) | assumption)
                   have q621 : x8_2 < (y620.length : Int) := (by have h_ : (x8_2 : Int) < ((x7_19.length : Int) : Int) := of_decide_eq_true (by first | (with_reducible assumption) | assumption); first | (have e_ := (Kd.R_reads' HO_7.out).1; omega) | simpa only [Ny620.out, List.length_set] using h_)
                   have ql621 : ((x8_2 : Int) < ((x7_19.length : Int) : Int)) = True := eq_true (of_decide_eq_true (by first | (with_reducible assumption) | assumption))
                   obtain ⟨ad621, e621, hx621_0, hx621_1⟩ := at_T27 (Kd.R_reads' HO_7.out).2.2 x8_2 p621 q621
                   obtain rfl : (⟨go71, 0, none⟩ : Addr) = ad621 := (by injection e621)
                   (first | simp only [add_plain] at hx621_0 | simp only [add_at] at hx621_0 | simp only [Addr.add, Nat.zero_add] at hx621_0 | skip)
                   (first | simp only [add_plain] at hx621_1 | simp only [add_at] at hx621_1 | simp only [Addr.add, Nat.zero_add] at hx621_1 | skip)
                   replace p621 := eq_true p621
                   replace q621 := eq_true q621
                   have p622 : 0 ≤ (x8_2 : Int) := of_decide_eq_true (by first | (with_reducible assumption) | assumption)
                   have q622 : x8_2 < (y620.length : Int) := (by have h_ : (x8_2 : Int) < ((x7_19.length : Int) : Int) := of_decide_eq_true (by first | (with_reducible assumption) | assumption); first | (have e_ := (Kd.R_reads' HO_7.out).1; omega) | simpa only [Ny620.out, List.length_set] using h_)
                   have ql622 : ((x8_2 : Int) < ((x7_19.length : Int) : Int)) = True := eq_true (of_decide_eq_true (by first | (with_reducible assumption) | assumption))
                   obtain ⟨ad622, e622, hx622_0, hx622_1⟩ := at_T27 (Kd.R_reads' HO_7.out).2.2 x8_2 p622 q622
                   obtain rfl : (⟨go71, 0, none⟩ : Addr) = ad622 := (by injection e622)
                   (first | simp only [add_plain] at hx622_0 | simp only [add_at] at hx622_0 | simp only [Addr.add, Nat.zero_add] at hx622_0 | skip)
                   (first | simp only [add_plain] at hx622_1 | simp only [add_at] at hx622_1 | simp only [Addr.add, Nat.zero_add] at hx622_1 | skip)
                   replace p622 := eq_true p622
                   replace q622 := eq_true q622
                   refine start_ (n := 11) (S := fun w' => w'.cell? ⟨go71, (x8_2).toNat * 2, none⟩ = some (.int .i64 ((rd_T27 y620 x8_2).f0)) ∧ w'.cell? ⟨go71, (x8_2).toNat * 2 + 1, none⟩ = some (.int .i64 ((rd_T27 y620 x8_2).f1)) ∧ w'.cell? ⟨go71, (x8_2).toNat * 2, none⟩ = some (.int .i64 ((rd_T27 y620 x8_2).f0)) ∧ w'.cell? ⟨go71, (x8_2).toNat * 2 + 1, none⟩ = some (.int .i64 ((rd_T27 y620 x8_2).f1))) (ds := []) #[false, false, false, false, false, false, false, false, false, false, false] (by kernel_rfl) rfl rfl ⟨hx621_0, hx621_1, hx622_0, hx622_1⟩ (fun hHeld => ?_); refine with_tabW swashplateref01_Minus.tab20 swashplateref01_Minus.bits20 (fun HT_ HW_ => ?_)
                   generalize w79.drew = w80 at HO_6 HO_7 HB HQ78 hx621_0 hx621_1 hx622_0 hx622_1 hHeld ⊢
                   refine pure_ (i := 0) (N := some 115) (v := ?_) (a' := ?_) #[true, false, false, false, false, false, false, false, false, false, false] rfl rfl (any_of HT_.out (by kernel_rfl)) (fun _ _ _ h => h) (Or.inl ⟨by rfl, ?_⟩) ?_ ?_
                   rotate_left
                   ·
                    intro w'
                    go_simp
                    with_reducible rfl
                   rotate_left
                   ·
                    simp only [Act.put, List.setIfInBounds_toArray, List.set_cons_zero, List.set_cons_succ, i64_w, i32_w]
                    rfl
                   refine pure_ (i := 1) (N := some 116) (v := ?_) (a' := ?_) #[true, true, false, false, false, false, false, false, false, false, false] rfl rfl (any_of HT_.out (by kernel_rfl)) (fun _ _ _ h => h) (Or.inl ⟨by rfl, ?_⟩) ?_ ?_
                   rotate_left
                   ·
                    intro w'
                    go_simp
                    with_reducible rfl
                   rotate_left
                   ·
                    simp only [Act.put, List.setIfInBounds_toArray, List.set_cons_zero, List.set_cons_succ, i64_w, i32_w]
                    rfl
                   refine pure_ (i := 2) (N := some 117) (v := ?_) (a' := ?_) #[true, true, true, false, false, false, false, false, false, false, false] rfl rfl (any_of HT_.out (by kernel_rfl)) (fun _ _ _ h => h) (Or.inl ⟨by rfl, ?_⟩) ?_ ?_
                   rotate_left
                   ·
                    intro w'
                    go_simp
                    with_reducible rfl
                   rotate_left
                   ·
                    simp only [Act.put, List.setIfInBounds_toArray, List.set_cons_zero, List.set_cons_succ, i64_w, i32_w]
                    rfl
                   refine pure_ (i := 3) (N := some 118) (v := ?_) (a' := ?_) #[true, true, true, true, false, false, false, false, false, false, false] rfl rfl (any_of HT_.out (by kernel_rfl)) (fun _ _ _ h => h) (Or.inl ⟨by rfl, ?_⟩) ?_ ?_
                   rotate_left
                   ·
                    intro w'
                    go_simp
                    with_reducible rfl
                   rotate_left
                   ·
                    simp only [Act.put, List.setIfInBounds_toArray, List.set_cons_zero, List.set_cons_succ, i64_w, i32_w]
                    rfl
                   refine pure_ (i := 5) (N := some 120) (v := ?_) (a' := ?_) #[true, true, true, true, false, true, false, false, false, false, false] rfl rfl (any_of HT_.out (by kernel_rfl)) (fun _ _ _ h => h) (Or.inl ⟨by rfl, ?_⟩) ?_ ?_
                   rotate_left
                   ·
                    intro w'
                    go_simp
                    with_reducible rfl
                   rotate_left
                   ·
                    simp only [Act.put, List.setIfInBounds_toArray, List.set_cons_zero, List.set_cons_succ, i64_w, i32_w]
                    rfl
                   refine pure_ (i := 6) (N := some 121) (v := ?_) (a' := ?_) #[true, true, true, true, false, true, true, false, false, false, false] rfl rfl (any_of HT_.out (by kernel_rfl)) (fun _ _ _ h => h) (Or.inl ⟨by rfl, ?_⟩) ?_ ?_
                   rotate_left
                   ·
                    intro w'
                    go_simp
                    with_reducible rfl
                   rotate_left
                   ·
                    simp only [Act.put, List.setIfInBounds_toArray, List.set_cons_zero, List.set_cons_succ, i64_w, i32_w]
                    rfl
                   refine pure_ (i := 7) (N := some 122) (v := ?_) (a' := ?_) #[true, true, true, true, false, true, true, true, false, false, false] rfl rfl (any_of HT_.out (by kernel_rfl)) (fun _ _ _ h => h) (Or.inl ⟨by rfl, ?_⟩) ?_ ?_
                   rotate_left
                   ·
                    intro w'
                    go_simp
                    with_reducible rfl
                   rotate_left
                   ·
                    simp only [Act.put, List.setIfInBounds_toArray, List.set_cons_zero, List.set_cons_succ, i64_w, i32_w]
                    rfl
                   refine pure_ (i := 8) (N := some 123) (v := ?_) (a' := ?_) #[true, true, true, true, false, true, true, true, true, false, false] rfl rfl (any_of HT_.out (by kernel_rfl)) (fun _ _ _ h => h) (Or.inl ⟨by rfl, ?_⟩) ?_ ?_
                   rotate_left
                   ·
                    intro w'
                    go_simp
                    with_reducible rfl
                   rotate_left
                   ·
                    simp only [Act.put, List.setIfInBounds_toArray, List.set_cons_zero, List.set_cons_succ, i64_w, i32_w]
                    rfl
                   refine take_ (i := 4) (N := some 119) (v := ?_) (a' := ?_) #[true, true, true, true, true, true, true, true, true, false, false] rfl rfl (take_ofW HT_.out HW_.out (by kernel_rfl)) (fun _ _ _ h => h) (Or.inl ⟨by rfl, ?_⟩) hHeld ?_ ?_
                   rotate_left
                   ·
                    rintro w' ⟨s0, s1, s2, s3⟩
                    go_simp
                    with_reducible rfl
                   rotate_left
                   ·
                    simp only [Act.put, List.setIfInBounds_toArray, List.set_cons_zero, List.set_cons_succ, i64_w, i32_w]
                    rfl
                   refine take_ (i := 9) (N := some 124) (v := ?_) (a' := ?_) #[true, true, true, true, true, true, true, true, true, true, false] rfl rfl (take_ofW HT_.out HW_.out (by kernel_rfl)) (fun _ _ _ h => h) (Or.inl ⟨by rfl, ?_⟩) hHeld ?_ ?_
                   rotate_left
                   ·
                    rintro w' ⟨s0, s1, s2, s3⟩
                    go_simp
                    with_reducible rfl
                   rotate_left
                   ·
                    simp only [Act.put, List.setIfInBounds_toArray, List.set_cons_zero, List.set_cons_succ, i64_w, i32_w]
                    rfl
                   refine pure_ (i := 10) (N := some 125) (v := ?_) (a' := ?_) #[true, true, true, true, true, true, true, true, true, true, true] rfl rfl (any_of HT_.out (by kernel_rfl)) (fun _ _ _ h => h) (Or.inl ⟨by rfl, ?_⟩) ?_ ?_
                   rotate_left
                   ·
                    intro w'
                    go_simp
                    with_reducible rfl
                   rotate_left
                   ·
                    simp only [Act.put, List.setIfInBounds_toArray, List.set_cons_zero, List.set_cons_succ, i64_w, i32_w]
                    rfl
                   refine done_ (done_of HT_.out (by kernel_rfl)) ?_
                   try go_wp2
                   (try simp only [← hl7_19])
                   go_roundg kj19
                   case measure => have := HJ2.out; have := HK2.out; have := HJ19.out; omega
                   case rel => exact ⟨(x6_19), (y620), (wrap64 (x8_2 + 1)), (by first | rfl | (simp; done) | (simp [*]; done)), H', ⟨by have := HJ2.out; have := HK2.out; have := HJ19.out; omega⟩, ⟨by (try simp only [hl7_19]); (with_reducible repeat (first | apply Kd.S_alloc | apply Kd.S_drewN | apply Kd.S_drew)); exact HO_6.out⟩, ⟨by (try simp only [hl7_19]); (with_reducible repeat (first | apply Kd.R_alloc | apply Kd.R_drewN | apply Kd.R_drew)); exact HO_7.out⟩, ⟨bl_ HB.out⟩⟩
                 ·
                  rw [if_neg c70] at H
                  exact absurd H (by simp)
               ·
                rw [if_neg c36] at H
                exact absurd H (by simp)
              ·
               rw [if_neg c35] at H
               exact absurd H (by simp)
           ·
            rw [if_neg c19] at H
            exact absurd H (by simp)
          ·
           rw [if_neg c18] at H
           exact absurd H (by simp)
         ·
          rw [if_neg c17] at H
          exact absurd H (by simp)
        ·
         rw [if_neg c16] at H
         have c16b0 : decide (x8_2 < (l0.length : Int)) = false := decide_eq_false c16
         clear c16
         simp only [Option.some.injEq, Prod.mk.injEq] at H
         obtain ⟨rfl, rfl⟩ := H
         go_wp2
         go_ret2
         exact ⟨_, by first | rfl | (simp [errW_none, errW_some] <;> rfl) | (simp [*, errW_none, errW_some] <;> rfl), by (with_reducible repeat (first | apply Kd.S_alloc | apply Kd.S_drewN | apply Kd.S_drew)); exact Kd.S_mono HO_6.out (fun _ hk => trivial), bl_ HB.out⟩
     ·
      rw [if_neg c12] at H
      exact absurd H (by simp)
    ·
     rw [if_neg c11] at H
     have c11b0 : ((l0.length : Int) == (l1.length : Int)) = false := beq_eq_false_iff_ne.mpr c11
     have c11b1 : ((l0.length : Int) != (l1.length : Int)) = true := bne_iff_ne.mpr c11
     have c11b2 : (l0.length == l1.length) = false := by first | simpa using c11 | (simp at c11 ⊢; omega)
     simp only [Option.some.injEq, Prod.mk.injEq] at H
     obtain ⟨rfl, rfl⟩ := H
     go_wp2
     go_ret2
     exact ⟨_, by first | rfl | (simp [errW_none, errW_some] <;> rfl) | (simp [*, errW_none, errW_some] <;> rfl), by first | exact Kd.S_nil _ _ _ _ _ | exact Kd.N_nil _ _ _ _ _ | exact Kd.V_nil _ _ _ _ _ | exact Kd.Q_nil _ _ _ _ _ | exact Kd.R_nil _ _ _ _ _, bl_ HB.out⟩
end Go.Proofs.Yteodlmgmmpkpoaa.PS
end
section
namespace Go.Proofs.Yteodlmgmmpkpoaa.PS
open Go.RowKit Go.Proofs.YteodlmgmmpkpoaaW.PrintWords Go.Proofs.YteodlmgmmpkpoaaW.PrintLast Go.Proofs.YteodlmgmmpkpoaaW.PrintMore
set_option linter.unusedVariables false
set_option linter.unusedSimpArgs false
theorem boxB_at {l : List S27} (h : boxB l = true) {d : Nat} (hd : d < l.length) : -1000000 ≤ (l.getD d z27).f0 ∧ (l.getD d z27).f0 ≤ (l.getD d z27).f1 ∧ (l.getD d z27).f1 ≤ 1000000 := by
  unfold boxB at h
  simp only [Bool.and_eq_true, List.all_eq_true] at h
  have := h.2 _ (getD_mem l z27 d hd)
  unfold okS at this
  simp only [Bool.and_eq_true, decide_eq_true_eq] at this
  exact ⟨this.1.1, this.1.2, this.2⟩
theorem boxB_size {l : List S27} (h : boxB l = true) : 1 ≤ l.length ∧ l.length ≤ 3 := by
  unfold boxB at h
  simp only [Bool.and_eq_true, decide_eq_true_eq] at h
  exact h.1
theorem set_at (pre : List S27) (l : List S27) (d : Nat) (hp : pre.length = d) (hd : d < l.length) (x : S27) : (pre ++ l.drop d).set d x = pre ++ x :: l.drop (d + 1) := by
  rw [drop_stepG z27 l d hd, List.set_append_right _ _ (by omega), show d - pre.length = 0 by omega]
  rfl
theorem get_at (pre : List S27) (l : List S27) (d : Nat) (hp : pre.length = d) (hd : d < l.length) : (pre ++ l.drop d).getD d z27 = l.getD d z27 := by
  rw [drop_stepG z27 l d hd]
  simp only [List.getD_eq_getElem?_getD]
  rw [List.getElem?_append_right (by omega), show d - pre.length = 0 by omega]
  rfl
theorem mn_min (a b : Int) : mn a b = min a b := by unfold mn; split <;> omega
theorem mx_max (a b : Int) : mx a b = max a b := by unfold mx; split <;> omega
theorem refM_loop (x0 x1 : List S27) (h0 : boxB x0 = true) (h1 : boxB x1 = true) (hl : x0.length = x1.length) : ∀ (n d k : Nat) (pre : List S27) (out : List (List S27)), n = x0.length - d → d ≤ x0.length → pre.length = d → out.length ≤ 2 * d → 2 * n + 1 ≤ k →
    swashplateref01_Minus.l0 k x0 x1 out (pre ++ x0.drop d) d = some (out ++ cutT pre (x0.drop d) (x1.drop d), 0)
  | n, d, 0, pre, out, hn, hd, hp, ho, hk => absurd hk (by omega)
  | n, d, k + 1, pre, out, hn, hd, hp, ho, hk => by
    have b0 := boxB_size h0
    by_cases hlt : d < x0.length
    · obtain ⟨k, rfl⟩ : ∃ m, k = m + 1 := ⟨k - 1, by omega⟩
      have a1 := boxB_at h0 hlt
      have a2 := boxB_at h1 (show d < x1.length by omega)
      have e1 := drop_stepG z27 x0 d hlt
      have e2 := drop_stepG z27 x1 d (by omega)
      have hlen : (pre ++ x0.drop d).length = x0.length := by simp; omega
      have hset := set_at pre x0 d hp hlt
      have hget := get_at pre x0 d hp hlt
      have ih : ∀ (x : S27) (out : List (List S27)), out.length ≤ 2 * (d + 1) → swashplateref01_Minus.l0 k x0 x1 out (pre ++ x :: x0.drop (d + 1)) ((d + 1 : Nat) : Int) = some (out ++ cutT (pre ++ [x]) (x0.drop (d + 1)) (x1.drop (d + 1)), 0) := fun x out ho => by
        have := refM_loop x0 x1 h0 h1 hl (n - 1) (d + 1) k (pre ++ [x]) out (by omega) (by omega) (by simp; omega) ho (by omega)
        rwa [List.append_assoc, List.singleton_append] at this
      obtain ⟨sa, hsa⟩ : ∃ s, x0.getD d z27 = s := ⟨_, rfl⟩
      obtain ⟨sb, hsb⟩ : ∃ s, x1.getD d z27 = s := ⟨_, rfl⟩
      rw [hsa] at a1 hget e1
      rw [hsb] at a2 e2
      have w1 : Aside0 (wrap64 (sb.f0 - 1) = sb.f0 - 1) := ⟨wr64 (by omega) (by omega)⟩
      have w2 : Aside0 (wrap64 (sb.f1 + 1) = sb.f1 + 1) := ⟨wr64 (by omega) (by omega)⟩
      have rA : rd_T27 (pre ++ x0.drop d) (d : Int) = sa := by rw [rdT27_nat, hget]
      have rB : rd_T27 x1 (d : Int) = sb := by rw [rdT27_nat, hsb]
      have rS : ∀ x : S27, rd_T27 (pre ++ x :: x0.drop (d + 1)) (d : Int) = x := fun x => by
        rw [rdT27_nat]
        simp only [List.getD_eq_getElem?_getD]
        rw [List.getElem?_append_right (by omega), show d - pre.length = 0 by omega]
        rfl
      have hT : cutT pre (x0.drop d) (x1.drop d) = (if sa.f0 ≤ min sa.f1 (sb.f0 - 1) then [pre ++ ⟨sa.f0, min sa.f1 (sb.f0 - 1)⟩ :: x0.drop (d + 1)] else []) ++ ((if max sa.f0 (sb.f1 + 1) ≤ sa.f1 then [pre ++ ⟨max sa.f0 (sb.f1 + 1), sa.f1⟩ :: x0.drop (d + 1)] else []) ++
          (if max sa.f0 sb.f0 ≤ min sa.f1 sb.f1 then cutT (pre ++ [⟨max sa.f0 sb.f0, min sa.f1 sb.f1⟩]) (x0.drop (d + 1)) (x1.drop (d + 1)) else [])) := by
        rw [e1, e2]; simp only [cutT]
      have st := Aside0.mk (step64 d (by omega))
      have hj : ∀ out' : List (List S27), out'.length ≤ 2 * d + 1 → swashplateref01_Minus.j2 (k + 1) x0 x1 out' (pre ++ x0.drop d) d sa.f0 sa.f1 = some (out' ++ ((if max sa.f0 (sb.f1 + 1) ≤ sa.f1 then [pre ++ ⟨max sa.f0 (sb.f1 + 1), sa.f1⟩ :: x0.drop (d + 1)] else []) ++
          (if max sa.f0 sb.f0 ≤ min sa.f1 sb.f1 then cutT (pre ++ [⟨max sa.f0 sb.f0, min sa.f1 sb.f1⟩]) (x0.drop (d + 1)) (x1.drop (d + 1)) else [])), 0) := by
        intro out' ho'
        simp only [swashplateref01_Minus.j2]
        rw [if_pos (by omega), if_pos (by omega), rB]
        simp only [Option.bind_some, List.length_nil, Nat.zero_add, List.nil_append, w2.out, st.out, Int.toNat_natCast, hset, rA, rS, mn_min, mx_max, hlen]
        by_cases hq : sa.f1 > sb.f1
        · rw [if_pos hq, if_pos (by omega), if_pos (by omega), if_pos (by omega), if_pos (by omega), if_pos (show max sa.f0 (sb.f1 + 1) ≤ sa.f1 by omega)]
          by_cases hr : max sa.f0 sb.f0 ≤ min sa.f1 sb.f1
          · rw [if_neg (by omega), if_pos hr, ih _ _ (by simp; omega)]
            simp
          · rw [if_pos (by omega), if_neg hr]
            simp
        · rw [if_neg hq, if_pos (by omega), if_neg (show ¬ max sa.f0 (sb.f1 + 1) ≤ sa.f1 by omega)]
          by_cases hr : max sa.f0 sb.f0 ≤ min sa.f1 sb.f1
          · rw [if_neg (by omega), if_pos hr, ih _ _ (by omega)]
            simp
          · rw [if_pos (by omega), if_neg hr]
            simp
      rw [hT]
      simp only [swashplateref01_Minus.l0]
      rw [if_pos (by omega), if_pos (by omega), if_pos (by omega), if_pos (by omega), rA, rB]
      simp only [Option.bind_some, List.length_nil, Nat.zero_add, List.nil_append, w1.out, Int.toNat_natCast, hset, rA, rS, mn_min, mx_max, hlen]
      by_cases hp1 : sa.f0 < sb.f0
      · rw [if_pos hp1, if_pos (by omega), if_pos (by omega), if_pos (by omega), hj _ (by simp; omega), if_pos (show sa.f0 ≤ min sa.f1 (sb.f0 - 1) by omega)]
        simp
      · rw [if_neg hp1, hj _ (by omega), if_neg (show ¬ sa.f0 ≤ min sa.f1 (sb.f0 - 1) by omega)]
        simp
    · obtain rfl : d = x0.length := by omega
      simp only [swashplateref01_Minus.l0]
      rw [if_neg (by omega), List.drop_of_length_le (Nat.le_refl _)]
      unfold cutT
      simp
end Go.Proofs.Yteodlmgmmpkpoaa.PS
end
section
namespace Go.Proofs.Yteodlmgmmpkpoaa.PS
open Go.RowKit Go.Proofs.YteodlmgmmpkpoaaW.PrintWords Go.Proofs.YteodlmgmmpkpoaaW.PrintLast Go.Proofs.YteodlmgmmpkpoaaW.PrintMore
set_option linter.unusedVariables false
set_option linter.unusedSimpArgs false
def minR (a b : List S27) : List (List S27) × Int := if boxB a && boxB b then (if a.length = b.length then (cutT [] a b, 0) else ([], 1)) else ([], 10)
theorem refM_total (a b : List S27) (k : Nat) (hk : 10 ≤ k) : swashplateref01_Minus.f k a b = some (minR a b) := by
  obtain ⟨k, rfl⟩ : ∃ m, k = m + 1 := ⟨k - 1, by omega⟩
  unfold swashplateref01_Minus.f minR
  rw [rcheck_total a _ (by omega), Option.bind_some]
  rcases Bool.eq_false_or_eq_true (boxB a) with ha | ha
  · rw [ha, if_pos rfl, if_pos rfl, rcheck_total b _ (by omega), Option.bind_some, Bool.true_and]
    rcases Bool.eq_false_or_eq_true (boxB b) with hb | hb
    · rw [hb, if_pos rfl, if_pos rfl]
      simp only [swashplateref01_Minus.j0]
      rw [if_neg (by decide)]
      by_cases hl : a.length = b.length
      · have h3 := boxB_size ha
        have := refM_loop a b ha hb hl a.length 0 k [] [] (by omega) (by omega) rfl (by simp) (by omega)
        rw [List.nil_append, List.nil_append, List.drop_zero, List.drop_zero, show ((0 : Nat) : Int) = 0 from rfl] at this
        rw [if_pos (by omega), if_pos hl, Option.bind_some, if_pos (by simp only [List.length_nil]; omega), List.nil_append, this]
      · rw [if_neg (by omega), if_neg hl]
    · rw [hb, if_neg (by simp), if_neg (by simp)]
      simp only [swashplateref01_Minus.j0]
      rw [if_pos (by decide)]
  · rw [ha, if_neg (by simp), if_neg (by simp)]
    simp only [swashplateref01_Minus.j0]
    rw [if_pos (by decide)]
end Go.Proofs.Yteodlmgmmpkpoaa.PS
end
section
namespace Go.Proofs.Yteodlmgmmpkpoaa.PS
open Go.RowKit Go.Proofs.YteodlmgmmpkpoaaW.PrintWords Go.Proofs.YteodlmgmmpkpoaaW.PrintLast Go.Proofs.YteodlmgmmpkpoaaW.PrintMore
attribute [local go_sem] max2_int min2_int max_two min_two max_three min_three max_four min_four   -- for this text's walks alone
set_option linter.unusedVariables false
set_option linter.unusedSimpArgs false
mutual
def spans_check.l0 : Nat → List (List (S27)) → List (List (S27)) → Int → Int → Option (Int)
 | 0, _, _, _, _ => none
 | k + 1, x0, x8, x9, x10 => if x10 < x9 then (if 0 ≤ x10 then (if x10 < (x8.length : Int) then ((spans_Check.f (rd_L2 x8 x10)).bind fun t161 => (if t161 = 0 then (spans_check.l0 k x0 x8 x9 (wrap64 (x10 + 1))) else (some t161))) else (none)) else (none)) else (spans_check.l1 k x0 x0 (x0.length : Int) 0)
def spans_check.l1 : Nat → List (List (S27)) → List (List (S27)) → Int → Int → Option (Int)
 | 0, _, _, _, _ => none
 | k + 1, x0, x20, x21, x22 => if x22 < x21 then (if 0 ≤ x22 then (if x22 < (x20.length : Int) then (if 0 < (x0.length : Int) then (if ((rd_L2 x20 x22).length : Int) = ((rd_L2 x0 0).length : Int) then (spans_check.l1 k x0 x20 x21 (wrap64 (x22 + 1))) else (some 1)) else (none)) else (none)) else (none)) else (some 0)
end
def spans_check.f (k : Nat) (l0 : List (List (S27))) : Option (Int) := spans_check.l0 k l0 l0 (l0.length : Int) 0
set_option maxHeartbeats 8000000 in
set_option maxRecDepth 100000 in
theorem spans_check.calls (k : Nat) (A0 : Option Addr) (c0 : Nat) (l0 : List (List (S27))) (r : Int) (w : World) (hr0 : Kd.C (Kd.slice 27 k27) w A0 l0.length l0) (hc0 : l0.length ≤ c0) (h : spans_check.f k l0 = some r) :
  Calls Try.prog 124 #[.slice A0 l0.length c0] w fun e w' => e = .returned (.int .i64 r) ∧ Below w.heap.size w w' := by
 have HR0 := Aside0.mk hr0
 have HC0 := Aside0.mk hc0
 clear hr0 hc0
 have HB := Aside0.mk (Below.refl w.heap.size w)
 have H : (spans_check.l0 k l0 l0 (l0.length : Int) 0) = some r := h
 clear h
 have H' := Aside0.mk H
 clear H
 go_enter Try.func124, Try.ntmps124
 go_wp2
 go_loopg [10] k (fun kq v10 w' => ∃ (x10_1 : Int), v10 = .int .i64 x10_1 ∧ Aside0 (spans_check.l0 kq l0 l0 (l0.length : Int) x10_1 = some r) ∧ Aside0 (kq ≤ k) ∧ Aside0 (Below w.heap.size w w'))
 case atStart => exact ⟨(0), (by first | rfl | (simp; done) | (simp [*]; done)), H', ⟨Nat.le_refl _⟩, ⟨bl_ HB.out⟩⟩
 case round =>
  clear H'
  try clear c1
  obtain ⟨x10_1, rfl, HA, HK1, HB⟩ := hrel
  cases gk with
  | zero => exact absurd HA.out (by simp [spans_check.l0])
  | succ k1 =>
   have H := HA.out
   clear HA
   simp only [spans_check.l0] at H
   by_cases c2 : x10_1 < (l0.length : Int)
   ·
    rw [if_pos c2] at H
    have c2b0 : decide (x10_1 < (l0.length : Int)) = true := decide_eq_true c2
    clear c2
    by_cases c3 : 0 ≤ x10_1
    ·
     rw [if_pos c3] at H
     have c3b0 : decide (0 ≤ x10_1) = true := decide_eq_true c3
     clear c3
     by_cases c4 : x10_1 < (l0.length : Int)
     ·
      rw [if_pos c4] at H
      have c4b0 : decide (x10_1 < (l0.length : Int)) = true := decide_eq_true c4
      clear c4
      replace H := Option.bind_eq_some_iff.mp H
      obtain ⟨t161, A50, H⟩ := H
      replace H : (if t161 = 0 then (spans_check.l0 k1 l0 l0 (l0.length : Int) (wrap64 (x10_1 + 1))) else (some t161)) = some r := H
      have A5 := Aside0.mk A50
      clear A50
      by_cases c6 : t161 = 0
      ·
       rw [if_pos c6] at H
       have c6b0 : (t161 == 0) = true := beq_iff_eq.mpr c6
       have c6b1 : (t161 != 0) = false := bne_eq_false_iff_eq.mpr c6
       clear c6
       have H' := Aside0.mk H
       clear H
       have p160 : 0 ≤ (x10_1 : Int) := of_decide_eq_true (by first | (with_reducible assumption) | assumption)
       have q160 : x10_1 < (l0.length : Int) := of_decide_eq_true (by first | (with_reducible assumption) | assumption)
       obtain ⟨ad160, A160_0, c160_0, e160, hx160_0, hl160_0, hi160_0⟩ := at_L2 HR0.out x10_1 p160 q160
       cases e160
       replace hx160_0 := (HB.out.cell (World.block_lt_of_cell? w _ hx160_0)).trans hx160_0
       have HR160_0 := Aside0.mk hi160_0
       have HC160_0 := Aside0.mk hl160_0
       clear hi160_0 hl160_0
       replace p160 := eq_true p160
       replace q160 := eq_true q160
       go_wp2_with (first | ((with_reducible refine gate_callee (f := 26) rfl ?_); refine goesL_ (some 15) rfl rfl Try.func26 (by kernel_rfl) rfl #[.slice A160_0 (rd_L2 l0 x10_1).length c160_0] rfl (by (try simp only [List.map_toArray, List.map_cons, List.map_nil]); first | done | rfl | (simp only [List.length_drop, List.length_take]; rfl)) ?_; (with_reducible refine (spans_Check.calls _ _ (rd_L2 l0 x10_1) t161 _ ?side1 ?side2 A5.out).mono ?_); (case side1 => exact cr_ (Kd.C_below HR160_0.out HB.out)); (case side2 => exact HC160_0.out); rintro e w7 ⟨rfl, hb⟩; refine ⟨_, rfl, ?_⟩; have n0_ := Aside0.mk (below_step (bl_ HB.out) hb); clear HB; have HB := n0_; clear n0_; (try clear hb); (try clear hb2); (try clear hk); (try clear hi)))
       go_roundg k1
       case measure => have := HK1.out; omega
       case rel => exact ⟨(wrap64 (x10_1 + 1)), (by first | rfl | (simp; done) | (simp [*]; done)), H', ⟨by have := HK1.out; omega⟩, ⟨bl_ HB.out⟩⟩
      ·
       rw [if_neg c6] at H
       have c6b0 : (t161 == 0) = false := beq_eq_false_iff_ne.mpr c6
       have c6b1 : (t161 != 0) = true := bne_iff_ne.mpr c6
       obtain rfl := Option.some.inj H
       have p160 : 0 ≤ (x10_1 : Int) := of_decide_eq_true (by first | (with_reducible assumption) | assumption)
       have q160 : x10_1 < (l0.length : Int) := of_decide_eq_true (by first | (with_reducible assumption) | assumption)
       obtain ⟨ad160, A160_0, c160_0, e160, hx160_0, hl160_0, hi160_0⟩ := at_L2 HR0.out x10_1 p160 q160
       cases e160
       replace hx160_0 := (HB.out.cell (World.block_lt_of_cell? w _ hx160_0)).trans hx160_0
       have HR160_0 := Aside0.mk hi160_0
       have HC160_0 := Aside0.mk hl160_0
       clear hi160_0 hl160_0
       replace p160 := eq_true p160
       replace q160 := eq_true q160
       go_wp2_with (first | ((with_reducible refine gate_callee (f := 26) rfl ?_); refine goesL_ (some 15) rfl rfl Try.func26 (by kernel_rfl) rfl #[.slice A160_0 (rd_L2 l0 x10_1).length c160_0] rfl (by (try simp only [List.map_toArray, List.map_cons, List.map_nil]); first | done | rfl | (simp only [List.length_drop, List.length_take]; rfl)) ?_; (with_reducible refine (spans_Check.calls _ _ (rd_L2 l0 x10_1) t161 _ ?side1 ?side2 A5.out).mono ?_); (case side1 => exact cr_ (Kd.C_below HR160_0.out HB.out)); (case side2 => exact HC160_0.out); rintro e w8 ⟨rfl, hb⟩; refine ⟨_, rfl, ?_⟩; have n0_ := Aside0.mk (below_step (bl_ HB.out) hb); clear HB; have HB := n0_; clear n0_; (try clear hb); (try clear hb2); (try clear hk); (try clear hi)))
       go_ret
       exact ⟨by first | rfl | (simp [errW_none, errW_some] <;> rfl) | (simp [*, errW_none, errW_some] <;> rfl), bl_ HB.out⟩
     ·
      rw [if_neg c4] at H
      exact absurd H (by simp)
    ·
     rw [if_neg c3] at H
     exact absurd H (by simp)
   ·
    rw [if_neg c2] at H
    have c2b0 : decide (x10_1 < (l0.length : Int)) = false := decide_eq_false c2
    clear c2
    have H' := Aside0.mk H
    clear H
    go_wp2
    go_loopg [22] k1 (fun kq v22 w' => ∃ (x22_2 : Int), v22 = .int .i64 x22_2 ∧ Aside0 (spans_check.l1 kq l0 l0 (l0.length : Int) x22_2 = some r) ∧ Aside0 (kq ≤ k1) ∧ Aside0 (Below w.heap.size w w'))
    case atStart => exact ⟨(0), (by first | rfl | (simp; done) | (simp [*]; done)), H', ⟨Nat.le_refl _⟩, ⟨bl_ HB.out⟩⟩
    case round =>
     clear H'
     try clear c1
     try clear p1
     try clear q1
     try clear hx1
     try clear c2
     try clear c2b0
     try clear p2
     try clear c3
     try clear c3b0
     try clear c4
     try clear c4b0
     try clear c6
     try clear c6b0
     try clear c6b1
     try clear p6
     try clear hx160_0
     try clear p160
     try clear q160
     obtain ⟨x22_2, rfl, HA, HK2, HB⟩ := hrel
     cases gk with
     | zero => exact absurd HA.out (by simp [spans_check.l1])
     | succ k2 =>
      have H := HA.out
      clear HA
      simp only [spans_check.l1] at H
      by_cases c9 : x22_2 < (l0.length : Int)
      ·
       rw [if_pos c9] at H
       have c9b0 : decide (x22_2 < (l0.length : Int)) = true := decide_eq_true c9
       clear c9
       by_cases c10 : 0 ≤ x22_2
       ·
        rw [if_pos c10] at H
        have c10b0 : decide (0 ≤ x22_2) = true := decide_eq_true c10
        clear c10
        by_cases c11 : x22_2 < (l0.length : Int)
        ·
         rw [if_pos c11] at H
         have c11b0 : decide (x22_2 < (l0.length : Int)) = true := decide_eq_true c11
         clear c11
         by_cases c12 : 0 < (l0.length : Int)
         ·
          rw [if_pos c12] at H
          have c12b0 : decide (0 < (l0.length : Int)) = true := decide_eq_true c12
          have c12b1 : decide (0 < l0.length) = true := decide_eq_true (by omega)
          clear c12
          by_cases c13 : ((rd_L2 l0 x22_2).length : Int) = ((rd_L2 l0 0).length : Int)
          ·
           rw [if_pos c13] at H
           have c13b0 : (((rd_L2 l0 x22_2).length : Int) == ((rd_L2 l0 0).length : Int)) = true := beq_iff_eq.mpr c13
           have c13b1 : (((rd_L2 l0 x22_2).length : Int) != ((rd_L2 l0 0).length : Int)) = false := bne_eq_false_iff_eq.mpr c13
           have c13b2 : ((rd_L2 l0 x22_2).length == (rd_L2 l0 0).length) = true := by first | simpa using c13 | (simp at c13 ⊢; omega)
           clear c13
           have H' := Aside0.mk H
           clear H
           have p162 : 0 ≤ (x22_2 : Int) := of_decide_eq_true (by first | (with_reducible assumption) | assumption)
           have q162 : x22_2 < (l0.length : Int) := of_decide_eq_true (by first | (with_reducible assumption) | assumption)
           obtain ⟨ad162, A162_0, c162_0, e162, hx162_0, hl162_0, hi162_0⟩ := at_L2 HR0.out x22_2 p162 q162
           cases e162
           replace hx162_0 := (HB.out.cell (World.block_lt_of_cell? w _ hx162_0)).trans hx162_0
           have HR162_0 := Aside0.mk hi162_0
           have HC162_0 := Aside0.mk hl162_0
           clear hi162_0 hl162_0
           replace p162 := eq_true p162
           replace q162 := eq_true q162
           have p163 : 0 ≤ (0 : Int) := (by omega)
           have q163 : 0 < (l0.length : Int) := of_decide_eq_true (by first | (with_reducible assumption) | assumption)
           obtain ⟨ad163, A163_0, c163_0, e163, hx163_0, hl163_0, hi163_0⟩ := at_L2 HR0.out 0 p163 q163
           obtain rfl : ad162 = ad163 := (by injection e163)
           have qi163 : (0 < l0.length) = True := eq_true (by omega)
           (try rw [show ((0 : Int)).toNat = 0 from rfl] at hx163_0)
           (try rw [Addr.add_zero'] at hx163_0)
           replace hx163_0 := (HB.out.cell (World.block_lt_of_cell? w _ hx163_0)).trans hx163_0
           have HR163_0 := Aside0.mk hi163_0
           have HC163_0 := Aside0.mk hl163_0
           clear hi163_0 hl163_0
           replace p163 := eq_true p163
           replace q163 := eq_true q163
           go_wp2
           go_roundg k2
           case measure => have := HK1.out; have := HK2.out; omega
           case rel => exact ⟨(wrap64 (x22_2 + 1)), (by first | rfl | (simp; done) | (simp [*]; done)), H', ⟨by have := HK1.out; have := HK2.out; omega⟩, ⟨bl_ HB.out⟩⟩
          ·
           rw [if_neg c13] at H
           have c13b0 : (((rd_L2 l0 x22_2).length : Int) == ((rd_L2 l0 0).length : Int)) = false := beq_eq_false_iff_ne.mpr c13
           have c13b1 : (((rd_L2 l0 x22_2).length : Int) != ((rd_L2 l0 0).length : Int)) = true := bne_iff_ne.mpr c13
           have c13b2 : ((rd_L2 l0 x22_2).length == (rd_L2 l0 0).length) = false := by first | simpa using c13 | (simp at c13 ⊢; omega)
           obtain rfl := Option.some.inj H
           have p162 : 0 ≤ (x22_2 : Int) := of_decide_eq_true (by first | (with_reducible assumption) | assumption)
           have q162 : x22_2 < (l0.length : Int) := of_decide_eq_true (by first | (with_reducible assumption) | assumption)
           obtain ⟨ad162, A162_0, c162_0, e162, hx162_0, hl162_0, hi162_0⟩ := at_L2 HR0.out x22_2 p162 q162
           cases e162
           replace hx162_0 := (HB.out.cell (World.block_lt_of_cell? w _ hx162_0)).trans hx162_0
           have HR162_0 := Aside0.mk hi162_0
           have HC162_0 := Aside0.mk hl162_0
           clear hi162_0 hl162_0
           replace p162 := eq_true p162
           replace q162 := eq_true q162
           have p163 : 0 ≤ (0 : Int) := (by omega)
           have q163 : 0 < (l0.length : Int) := of_decide_eq_true (by first | (with_reducible assumption) | assumption)
           obtain ⟨ad163, A163_0, c163_0, e163, hx163_0, hl163_0, hi163_0⟩ := at_L2 HR0.out 0 p163 q163
           obtain rfl : ad162 = ad163 := (by injection e163)
           have qi163 : (0 < l0.length) = True := eq_true (by omega)
           (try rw [show ((0 : Int)).toNat = 0 from rfl] at hx163_0)
           (try rw [Addr.add_zero'] at hx163_0)
           replace hx163_0 := (HB.out.cell (World.block_lt_of_cell? w _ hx163_0)).trans hx163_0
           have HR163_0 := Aside0.mk hi163_0
           have HC163_0 := Aside0.mk hl163_0
           clear hi163_0 hl163_0
           replace p163 := eq_true p163
           replace q163 := eq_true q163
           go_wp2
           go_ret
           exact ⟨by first | rfl | (simp [errW_none, errW_some] <;> rfl) | (simp [*, errW_none, errW_some] <;> rfl), bl_ HB.out⟩
         ·
          rw [if_neg c12] at H
          exact absurd H (by simp)
        ·
         rw [if_neg c11] at H
         exact absurd H (by simp)
       ·
        rw [if_neg c10] at H
        exact absurd H (by simp)
      ·
       rw [if_neg c9] at H
       have c9b0 : decide (x22_2 < (l0.length : Int)) = false := decide_eq_false c9
       clear c9
       obtain rfl := Option.some.inj H
       go_wp2
       go_ret
       exact ⟨by first | rfl | (simp [errW_none, errW_some] <;> rfl) | (simp [*, errW_none, errW_some] <;> rfl), bl_ HB.out⟩
end Go.Proofs.Yteodlmgmmpkpoaa.PS
end
section
namespace Go.Proofs.Yteodlmgmmpkpoaa.PS
open Go.RowKit Go.Shelf Go.Proofs.YteodlmgmmpkpoaaW.PrintWords Go.Proofs.YteodlmgmmpkpoaaW.PrintLast Go.Proofs.YteodlmgmmpkpoaaW.PrintMore
set_option linter.unusedVariables false
set_option linter.unusedSimpArgs false
attribute [local go_sem] Oper.semAt_some
theorem check1_loop (l : List (List S27)) (hl : l.length ≤ 1000) : ∀ (k i : Nat), i ≤ l.length → l.length - i < k →
    spans_check.l1 k l l (l.length : Int) i = some (if (l.drop i).all (fun b => b.length == (l.headD []).length) then 0 else 1)
  | 0, i, _, h => absurd h (Nat.not_lt_zero _)
  | k + 1, i, hi, hk => by
    simp only [spans_check.l1]
    by_cases hlt : i < l.length
    · have h0 : rd_L2 l 0 = l.headD [] := by
        cases l with
        | nil => simp at hlt
        | cons a l => rfl
      rw [if_pos (by omega), if_pos (by omega), if_pos (by omega), if_pos (by omega), h0, show rd_L2 l (i : Int) = l.getD i [] by unfold rd_L2; rw [Int.toNat_natCast], drop_stepG [] l i hlt, List.all_cons]
      by_cases hc : (l.getD i []).length = (l.headD []).length
      · rw [if_pos (by omega), step64 i (by omega), check1_loop l hl k (i + 1) (by omega) (by omega), beq_iff_eq.2 hc, Bool.true_and]
      · rw [if_neg (by omega), show ((l.getD i []).length == (l.headD []).length) = false from beq_eq_false_iff_ne.2 hc]
        rfl
    · rw [if_neg (by omega), List.drop_of_length_le (by omega)]
      rfl
theorem check0_loop (l : List (List S27)) (hl : l.length ≤ 1000) : ∀ (k i : Nat), i ≤ l.length → (l.length - i) + l.length + 2 ≤ k →
    spans_check.l0 k l l (l.length : Int) i = some (if (l.drop i).all boxB then (if sameB (l.headD []).length l then 0 else 1) else 10)
  | 0, i, _, h => absurd h (by omega)
  | k + 1, i, hi, hk => by
    simp only [spans_check.l0]
    by_cases hlt : i < l.length
    · rw [if_pos (by omega), if_pos (by omega), if_pos (by omega), show rd_L2 l (i : Int) = l.getD i [] by unfold rd_L2; rw [Int.toNat_natCast], check_total, Option.bind_some, drop_stepG [] l i hlt, List.all_cons]
      rcases Bool.eq_false_or_eq_true (boxB (l.getD i [])) with hb | hb
      · rw [hb, if_pos rfl, if_pos rfl, step64 i (by omega), check0_loop l hl k (i + 1) (by omega) (by omega), Bool.true_and]
      · rw [hb, if_neg (show ¬ (false = true) by decide), if_neg (show ¬ ((10 : Int) = 0) by decide), Bool.false_and, if_neg (show ¬ (false = true) by decide)]
    · rw [if_neg (by omega), List.drop_of_length_le (by omega), List.all_nil, if_pos rfl]
      have := check1_loop l hl k 0 (Nat.zero_le _) (by omega)
      rw [List.drop_zero] at this
      exact this
theorem checkL_total (l : List (List S27)) (hl : l.length ≤ 30) (k : Nat) (hk : 100 ≤ k) : spans_check.f k l = some (listE l) := by
  unfold spans_check.f
  have := check0_loop l (by omega) k 0 (Nat.zero_le _) (by omega)
  rw [List.drop_zero] at this
  exact this
theorem listE_ok {l : List (List S27)} (h : listE l = 0) : ∀ x ∈ l, boxB x = true ∧ x.length = (l.headD []).length := by
  unfold listE at h
  split at h
  · split at h
    · rename_i h1 h2
      intro x hx
      refine ⟨List.all_eq_true.1 h1 x hx, ?_⟩
      unfold sameB at h2
      exact beq_iff_eq.1 (List.all_eq_true.1 h2 x hx)
    · cases h
  · cases h
theorem restT_ok {L : List (List S27)} {b : List S27} {n : Nat} (hb : boxB b = true) (hn : b.length = n) (hL : ∀ a ∈ L, boxB a = true ∧ a.length = n) : (∀ a ∈ restT L b, boxB a = true ∧ a.length = n) ∧ (restT L b).length ≤ 6 * L.length := by
  have h3 := boxB_size hb
  refine ⟨fun x hx => ?_, ?_⟩
  · obtain ⟨a, ha, hx⟩ := List.mem_flatMap.1 hx
    have h := hL a ha
    have hd := cutT_dim a b [] x hx
    rw [List.length_nil, Nat.zero_add] at hd
    exact ⟨boxB_mk (cutT_ok a b [] x rfl (boxB_ok h.1) (boxB_ok hb) hx) (by omega) (by omega), by omega⟩
  · induction L with
    | nil => simp [restT]
    | cons a L ih =>
      have ih := ih (fun x hx => hL x (List.mem_cons_of_mem _ hx))
      have h := hL a List.mem_cons_self
      have hm := cutT_max a b []
      have h4 := boxB_size h.1
      rw [show restT (a :: L) b = cutT [] a b ++ restT L b from rfl, List.length_append, List.length_cons]
      omega
theorem leftT_snoc (a : List S27) (l : List (List S27)) (b : List S27) : leftT a (l ++ [b]) = restT (leftT a l) b := by
  unfold leftT
  rw [List.foldl_append]
  rfl
theorem leftT_ok {a : List S27} {l : List (List S27)} {n : Nat} (ha : boxB a = true) (hn : a.length = n) (hl : ∀ b ∈ l, boxB b = true ∧ b.length = n) : (∀ x ∈ leftT a l, boxB x = true ∧ x.length = n) ∧ (leftT a l).length ≤ 6 ^ l.length := by
  have key : ∀ (m : List (List S27)), (∀ b ∈ m, boxB b = true ∧ b.length = n) → ∀ L : List (List S27), (∀ x ∈ L, boxB x = true ∧ x.length = n) → (∀ x ∈ m.foldl restT L, boxB x = true ∧ x.length = n) ∧ (m.foldl restT L).length ≤ 6 ^ m.length * L.length := by
    intro m
    induction m with
    | nil => exact fun _ L hL => ⟨hL, by simp⟩
    | cons b m ih =>
      intro hm L hL
      have h1 := restT_ok (hm b List.mem_cons_self).1 (hm b List.mem_cons_self).2 hL
      have h2 := ih (fun x hx => hm x (List.mem_cons_of_mem _ hx)) (restT L b) h1.1
      refine ⟨h2.1, Nat.le_trans h2.2 ?_⟩
      rw [List.length_cons, Nat.pow_succ, Nat.mul_assoc]
      exact Nat.mul_le_mul_left _ h1.2
  have := key l hl [a] (by intro x hx; rw [List.mem_singleton.1 hx]; exact ⟨ha, hn⟩)
  rwa [List.length_singleton, Nat.mul_one] at this
theorem pow6 {n : Nat} (h : n ≤ 8) : 6 ^ n ≤ 1679616 := Nat.le_trans (Nat.pow_le_pow_right (by decide) h) (by decide)
def Rd (W : World) (v : Value) (L : List (List S27)) : Prop := ∃ A c, v = .slice A L.length c ∧ L.length ≤ c ∧ Kd.C (Kd.slice 27 k27) W A L.length L
theorem Rd.below {W W' : World} {v : Value} {L : List (List S27)} (h : Rd W v L) (hb : Below W.heap.size W W') : Rd W' v L := by
  obtain ⟨A, c, h1, h2, h3⟩ := h
  exact ⟨A, c, h1, h2, Kd.C_below h3 hb⟩
theorem Rd.of_S {W : World} {base : Nat} {ok : Nat → Prop} {v : Value} {L : List (List S27)} (h : Kd.S (Kd.slice 27 k27) 38 W base ok v L) : Rd W v L := Kd.R_reads (Kd.S_R h)
end Go.Proofs.Yteodlmgmmpkpoaa.PS
end
section
namespace Go.Proofs.Yteodlmgmmpkpoaa.PS
open Go.RowKit Go.Proofs.YteodlmgmmpkpoaaW.PrintWords Go.Proofs.YteodlmgmmpkpoaaW.PrintLast Go.Proofs.YteodlmgmmpkpoaaW.PrintMore
attribute [local go_sem] max2_int min2_int max_two min_two max_three min_three max_four min_four   -- for this text's walks alone
set_option linter.unusedVariables false
set_option linter.unusedSimpArgs false
theorem k27_heap : Kd.Heap k27 := Kd.heap_iso _ (Kd.heap_pair (Kd.heap_int .i64) (Kd.heap_int .i64))
mutual
def swashplateref01_leftP.l0 : Nat → List (List (S27)) → List (List (S27)) → Int → Option ((List (List (S27))))
 | 0, _, _, _ => none
 | k + 1, x1, x5, x6 => if x6 < (x1.length : Int) then (swashplateref01_leftP.l1 k x1 x5 x6 ([] : List (List (S27))) 0) else (some x5)
def swashplateref01_leftP.l1 : Nat → List (List (S27)) → List (List (S27)) → Int → List (List (S27)) → Int → Option ((List (List (S27))))
 | 0, _, _, _, _, _ => none
 | k + 1, x1, x5, x6, x7, x8 => if x8 < (x5.length : Int) then (if 0 ≤ x8 then (if 0 ≤ x6 then (if x6 < (x1.length : Int) then ((swashplateref01_Minus.f k (rd_L2 x5 x8) (rd_L2 x1 x6)).bind fun bt667 => (if x7.length + bt667.1.length < 5864062014805 then (swashplateref01_leftP.l1 k x1 x5 x6 (x7 ++ bt667.1) (wrap64 (x8 + 1))) else (none))) else (none)) else (none)) else (none)) else (swashplateref01_leftP.l0 k x1 x7 (wrap64 (x6 + 1)))
end
def swashplateref01_leftP.f (k : Nat) (l0 : List (S27)) (l1 : List (List (S27))) : Option ((List (List (S27)))) := swashplateref01_leftP.l0 k l1 (([l0] : List (List (S27)))) 0
def swashplateref01_leftP.T9 : Bool × List (List Nat × List Nat) := (true, [([], []), ([], []), ([0, 1], [0, 1]), ([2], [2]), ([], []), ([], []), ([4, 5], [4, 5]), ([6], [6]), ([3, 7], [3, 7]), ([8], [8]), ([9], [9]), ([9], [9]), ([10, 8, 0, 1, 2, 3, 4, 5, 6, 7, 8, 9, 10], [10]), ([11, 12, 0, 1, 2, 3, 4, 5, 6, 7, 8, 9, 10, 11, 12], [11])])
def swashplateref01_leftP.B9 : List Nat := [0, 0, 3, 7, 0, 0, 48, 112, 255, 511, 1023, 1023, 2047, 8191]
theorem swashplateref01_leftP.tab9 : rtab .any (opsOf Try.f126 9) = swashplateref01_leftP.T9 := by kernel_rfl
theorem swashplateref01_leftP.bits9 : waitsOk swashplateref01_leftP.T9.2 swashplateref01_leftP.B9 = true := by kernel_rfl
set_option maxHeartbeats 8000000 in
set_option maxRecDepth 100000 in
theorem swashplateref01_leftP.calls (k : Nat) (P0_ : Nat → Prop) (A0 : Option Addr) (c0 : Nat) (l0 : List (S27)) (A1 : Option Addr) (c1 : Nat) (l1 : List (List (S27))) (r : List (List (S27))) (w : World) (hs0 : Kd.V k27 27 w w.heap.size (fun k_ => P0_ k_) (.slice A0 l0.length c0) l0) (hr1 : Kd.C (Kd.slice 27 k27) w A1 l1.length l1) (hc1 : l1.length ≤ c1) (h : swashplateref01_leftP.f k l0 l1 = some r) :
  Calls Try.prog 126 #[.slice A0 l0.length c0, .slice A1 l1.length c1] w fun e w' => ∃ v0_ : Value, e = .returned (v0_) ∧ Kd.N (Kd.slice 27 k27) 38 w' w.heap.size (fun k_ => (P0_ k_ ∨ w.heap.size ≤ k_)) v0_ r ∧ Below w.heap.size w w' := by
 have HO0 := Aside0.mk (show Kd.V k27 27 w w.heap.size (fun k_ => (P0_ k_ ∨ w.heap.size ≤ k_)) (.slice A0 l0.length c0) l0 from Kd.V_mono hs0 (fun k_ hk => .inl hk))
 have HR1 := Aside0.mk hr1
 have HC1 := Aside0.mk hc1
 clear hr1 hc1
 have HB := Aside0.mk (Below.refl w.heap.size w)
 have H : (swashplateref01_leftP.l0 k l1 (([l0] : List (List (S27)))) 0) = some r := h
 clear h
 obtain ⟨y662, hy662⟩ : ∃ y_ : List (List (S27)), y_ = (([l0] : List (List (S27)))) := ⟨_, rfl⟩
 replace H : (swashplateref01_leftP.l0 k l1 y662 0) = some r := by first | (rw [hy662]; with_reducible exact H) | (have H2_ := (Option.bind_some _ _).symm.trans H; rw [hy662]; with_reducible exact H2_) | (have H2_ := (Option.bind_some _ _).symm.trans H; with_reducible exact H2_) | with_reducible exact H | (rw [hy662]; exact H) | exact H
 have Ny662 := Aside0.mk hy662
 clear hy662
 have H' := Aside0.mk H
 clear H
 go_enter Try.func126, Try.ntmps126
 go_wp2_with (first | ((with_reducible refine gate_dst (N := 12) rfl ?_); refine Kd.N_lit (Kd.slice 27 k27) _ 38 ?hg (N' := 12) ?hd (xs := ([l0] : List (List (S27)))) (inner := [.slice A0 l0.length c0]) (ok := (fun k_ => (P0_ k_ ∨ w.heap.size ≤ k_))) (okp := (fun k_ => (P0_ k_ ∨ w.heap.size ≤ k_))) ?hr ?hp (fun _ hk => hk) ((show ∀ k_, w.heap.size ≤ k_ → (fun k_ => (P0_ k_ ∨ w.heap.size ≤ k_)) k_ from fun k_ hk => (.inr (Nat.le_trans (below_size (bl_ HB.out)) hk))) _ (Nat.le_refl _)) (Below.refl _ _) (Nat.le_refl _) (by simp) ?_; (case hd => rfl); (case hg => rfl); (case hr => first | (go_simp; done) | (go_simp; rfl)); (case hp => exact (Reps.one (show Kd.FK (Kd.slice 27 k27) _ _ l0 [.slice A0 l0.length c0] from (Kd.FK_slice_mk (Kd.V_reads' (Kd.V_mono (ok' := (fun k_ => (P0_ k_ ∨ w.heap.size ≤ k_))) (HO0.out) (fun k_ hk => hk))).2.1 (Kd.V_F (Kd.V_mono (ok' := (fun k_ => (P0_ k_ ∨ w.heap.size ≤ k_))) (HO0.out) (fun k_ hk => hk))))) (Reps.none _ _))); intro v663 w3 ho4 hb hg_ hnew_; clear hg_ hnew_; (first | rw [← Ny662.out] at ho4 | (simp only [Int.reduceToNat] at ho4; rw [← Ny662.out] at ho4)); have n0_ := Aside0.mk (Kd.V_elder' (by (with_reducible repeat (first | apply Kd.V_alloc | apply Kd.V_drewN | apply Kd.V_drew)); exact HO0.out) (Kd.N_base ho4) hb); have n1_ := Aside0.mk (Kd.N_lower ho4 (below_size (bl_ HB.out))); have n2_ := Aside0.mk (below_step (bl_ HB.out) hb); clear HO0 HB; have HO0 := n0_; have HO664 := n1_; have HB := n2_; clear n0_ n1_ n2_ hb ho4))
 go_loopg [5, 6] k (fun kq v5 v6 w' => ∃ (x5_1 : List (List (S27))) (x6_1 : Int), v6 = .int .i64 x6_1 ∧ Aside0 (swashplateref01_leftP.l0 kq l1 x5_1 x6_1 = some r) ∧ Aside0 (kq ≤ k) ∧ Aside0 (Kd.N (Kd.slice 27 k27) 38 w' w.heap.size (fun k_ => (P0_ k_ ∨ w.heap.size ≤ k_)) v5 x5_1) ∧ Aside0 (Below w.heap.size w w'))
 case atStart => exact ⟨(y662), (0), (by first | rfl | (simp; done) | (simp [*]; done)), H', ⟨Nat.le_refl _⟩, ⟨by (with_reducible repeat (first | apply Kd.N_alloc | apply Kd.N_drewN | apply Kd.N_drew)); exact HO664.out⟩, ⟨bl_ HB.out⟩⟩
 case round =>
  clear H'
  try clear c1
  try clear p2
  obtain ⟨x5_1, x6_1, rfl, HA, HK1, HO_5, HB⟩ := hrel
  cases gk with
  | zero => exact absurd HA.out (by simp [swashplateref01_leftP.l0])
  | succ k1 =>
   have H := HA.out
   clear HA
   simp only [swashplateref01_leftP.l0] at H
   by_cases c5 : x6_1 < (l1.length : Int)
   ·
    rw [if_pos c5] at H
    have c5b0 : decide (x6_1 < (l1.length : Int)) = true := decide_eq_true c5
    clear c5
    have H' := Aside0.mk H
    clear H
    go_wp2
    go_loopg [7, 8] k1 (fun kq v7 v8 w' => ∃ (x7_2 : List (List (S27))) (x8_2 : Int), v8 = .int .i64 x8_2 ∧ Aside0 (swashplateref01_leftP.l1 kq l1 x5_1 x6_1 x7_2 x8_2 = some r) ∧ Aside0 (kq ≤ k1) ∧ Aside0 (Kd.N (Kd.slice 27 k27) 38 w' w.heap.size (fun k_ => (P0_ k_ ∨ w.heap.size ≤ k_) ∧ some k_ ≠ (v7 : Value).ownBlock) u5 x5_1) ∧ Aside0 (Kd.N (Kd.slice 27 k27) 38 w' w.heap.size (fun k_ => (P0_ k_ ∨ w.heap.size ≤ k_) ∧ some k_ ≠ (u5 : Value).ownBlock) v7 x7_2) ∧ Aside0 (Below w.heap.size w w'))
    case atStart => exact ⟨(([] : List (List (S27)))), (0), (by first | rfl | (simp; done) | (simp [*]; done)), H', ⟨Nat.le_refl _⟩, ⟨by (with_reducible repeat (first | apply Kd.N_alloc | apply Kd.N_drewN | apply Kd.N_drew)); exact Kd.N_mono HO_5.out (fun _ hk => ⟨hk, (by simp [Value.ownBlock])⟩)⟩, ⟨by first | exact Kd.S_nil _ _ _ _ _ | exact Kd.N_nil _ _ _ _ _ | exact Kd.V_nil _ _ _ _ _ | exact Kd.Q_nil _ _ _ _ _ | exact Kd.R_nil _ _ _ _ _⟩, ⟨bl_ HB.out⟩⟩
    case round =>
     clear H'
     try clear c1
     try clear p2
     try clear c5
     try clear c5b0
     try clear p2
     obtain ⟨x7_2, x8_2, rfl, HA, HK2, HO_5, HO_7, HB⟩ := hrel
     cases gk with
     | zero => exact absurd HA.out (by simp [swashplateref01_leftP.l1])
     | succ k2 =>
      have H := HA.out
      clear HA
      simp only [swashplateref01_leftP.l1] at H
      by_cases c6 : x8_2 < (x5_1.length : Int)
      ·
       rw [if_pos c6] at H
       have c6b0 : decide (x8_2 < (x5_1.length : Int)) = true := decide_eq_true c6
       clear c6
       by_cases c7 : 0 ≤ x8_2
       ·
        rw [if_pos c7] at H
        have c7b0 : decide (0 ≤ x8_2) = true := decide_eq_true c7
        clear c7
        by_cases c8 : 0 ≤ x6_1
        ·
         rw [if_pos c8] at H
         have c8b0 : decide (0 ≤ x6_1) = true := decide_eq_true c8
         clear c8
         by_cases c9 : x6_1 < (l1.length : Int)
         ·
          rw [if_pos c9] at H
          have c9b0 : decide (x6_1 < (l1.length : Int)) = true := decide_eq_true c9
          clear c9
          replace H := Option.bind_eq_some_iff.mp H
          obtain ⟨⟨t667, t668⟩, A100, H⟩ := H
          replace H : (if x7_2.length + t667.length < 5864062014805 then (swashplateref01_leftP.l1 k2 l1 x5_1 x6_1 (x7_2 ++ t667) (wrap64 (x8_2 + 1))) else (none)) = some r := H
          have A10 := Aside0.mk A100
          clear A100
          by_cases c11 : x7_2.length + t667.length < 5864062014805
          ·
           rw [if_pos c11] at H
           have LMc11 := Aside0.mk c11
           clear c11
           obtain ⟨y671, hy671⟩ : ∃ y_ : List (List (S27)), y_ = (x7_2 ++ t667) := ⟨_, rfl⟩
           replace H : (swashplateref01_leftP.l1 k2 l1 x5_1 x6_1 y671 (wrap64 (x8_2 + 1))) = some r := by first | (rw [hy671]; with_reducible exact H) | (have H2_ := (Option.bind_some _ _).symm.trans H; rw [hy671]; with_reducible exact H2_) | (have H2_ := (Option.bind_some _ _).symm.trans H; with_reducible exact H2_) | with_reducible exact H | (rw [hy671]; exact H) | exact H
           have Ny671 := Aside0.mk hy671
           clear hy671
           have H' := Aside0.mk H
           clear H
           obtain ⟨Ao12, co12, eo12⟩ := Kd.N_slice HO_5.out
           subst eo12
           try go_wp2
           have n0_ := Aside0.mk (Kd.N_drew HO_5.out)
           have n1_ := Aside0.mk (Kd.N_drew HO_7.out)
           have n2_ := Aside0.mk (below_drew1 HB.out)
           clear HO_5 HO_7 HB
           have HO_5 := n0_
           have HO_7 := n1_
           have HB := n2_
           clear n0_ n1_ n2_
           have p665 : 0 ≤ (x8_2 : Int) := of_decide_eq_true (by first | (with_reducible assumption) | assumption)
           have q665 : x8_2 < (x5_1.length : Int) := of_decide_eq_true (by first | (with_reducible assumption) | assumption)
           obtain ⟨ad665, A665_0, c665_0, e665, hx665_0, hl665_0, hi665_0⟩ := at_L2 (Kd.N_reads' HO_5.out).2.2 x8_2 p665 q665
           cases e665
           obtain ⟨ce665, hce665, hMe665, hcc665⟩ := Kd.N_get HO_5.out [] x8_2 p665 (by first | exact q665 | exact of_decide_eq_true (by first | (with_reducible assumption) | assumption) | (have e_ := (Kd.N_reads' HO_5.out).1; omega))
           obtain ⟨ua665_0, uc665_0, rfl, ul665_0, ge665_0⟩ := Kd.FK_slice_open hMe665
           have hv665_0 := hcc665 0 _ rfl
           rw [Nat.add_zero, show ((Kd.slice 27 k27)).sz = 1 from rfl, Nat.mul_one] at hv665_0
           replace hv665_0 := Option.some.inj (hv665_0.symm.trans hx665_0)
           injection hv665_0 with hva_ hvn_ hvc_
           rw [hva_] at ge665_0
           rw [hvc_] at ul665_0
           have HL665_0 := Aside0.mk (show Kd.V k27 27 _ w.heap.size _ _ (rd_L2 x5_1 x8_2) from Kd.V_mk ul665_0 ge665_0)
           clear hva_ hvn_ hvc_ ge665_0 ul665_0 hcc665 hce665
           have HR665_0 := Aside0.mk hi665_0
           have HC665_0 := Aside0.mk hl665_0
           clear hi665_0 hl665_0
           replace p665 := eq_true p665
           replace q665 := eq_true q665
           have p666 : 0 ≤ (x6_1 : Int) := of_decide_eq_true (by first | (with_reducible assumption) | assumption)
           have q666 : x6_1 < (l1.length : Int) := of_decide_eq_true (by first | (with_reducible assumption) | assumption)
           obtain ⟨ad666, A666_0, c666_0, e666, hx666_0, hl666_0, hi666_0⟩ := at_L2 HR1.out x6_1 p666 q666
           have hw666_0 := hx666_0
           cases e666
           replace hx666_0 := (HB.out.cell (World.block_lt_of_cell? w _ hx666_0)).trans hx666_0
           have HR666_0 := Aside0.mk hi666_0
           have HC666_0 := Aside0.mk hl666_0
           clear hi666_0 hl666_0
           replace p666 := eq_true p666
           replace q666 := eq_true q666
           refine start_ (n := 14) (S := fun w' => w'.cell? (ad665.add (x8_2).toNat) = some (.slice A665_0 (rd_L2 x5_1 x8_2).length c665_0) ∧ w'.cell? (ad666.add (x6_1).toNat) = some (.slice A666_0 (rd_L2 l1 x6_1).length c666_0)) (ds := []) #[false, false, false, false, false, false, false, false, false, false, false, false, false, false] (by kernel_rfl) rfl rfl ⟨hx665_0, ((HB.out.cell (World.block_lt_of_cell? w _ hw666_0)).trans hw666_0)⟩ (fun hHeld => ?_); refine with_tabW swashplateref01_leftP.tab9 swashplateref01_leftP.bits9 (fun HT_ HW_ => ?_)
           generalize wr.drew = w13 at HO_5 HO_7 HB HL665_0 HR665_0 HR666_0 hx665_0 hx666_0 hHeld ⊢
           refine pure_ (i := 0) (N := some 26) (v := ?_) (a' := ?_) #[true, false, false, false, false, false, false, false, false, false, false, false, false, false] rfl rfl (any_of HT_.out (by kernel_rfl)) (fun _ _ _ h => h) (Or.inl ⟨by rfl, ?_⟩) ?_ ?_
           rotate_left
           ·
            intro w'
            go_simp
            with_reducible rfl
           rotate_left
           ·
            simp only [Act.put, List.setIfInBounds_toArray, List.set_cons_zero, List.set_cons_succ, i64_w, i32_w]
            rfl
           refine pure_ (i := 1) (N := some 27) (v := ?_) (a' := ?_) #[true, true, false, false, false, false, false, false, false, false, false, false, false, false] rfl rfl (any_of HT_.out (by kernel_rfl)) (fun _ _ _ h => h) (Or.inl ⟨by rfl, ?_⟩) ?_ ?_
           rotate_left
           ·
            intro w'
            go_simp
            with_reducible rfl
           rotate_left
           ·
            simp only [Act.put, List.setIfInBounds_toArray, List.set_cons_zero, List.set_cons_succ, i64_w, i32_w]
            rfl
           refine pure_ (i := 2) (N := some 28) (v := ?_) (a' := ?_) #[true, true, true, false, false, false, false, false, false, false, false, false, false, false] rfl rfl (any_of HT_.out (by kernel_rfl)) (fun _ _ _ h => h) (Or.inl ⟨by rfl, ?_⟩) ?_ ?_
           rotate_left
           ·
            intro w'
            go_simp
            with_reducible rfl
           rotate_left
           ·
            simp only [Act.put, List.setIfInBounds_toArray, List.set_cons_zero, List.set_cons_succ, i64_w, i32_w]
            rfl
           refine pure_ (i := 4) (N := some 30) (v := ?_) (a' := ?_) #[true, true, true, false, true, false, false, false, false, false, false, false, false, false] rfl rfl (any_of HT_.out (by kernel_rfl)) (fun _ _ _ h => h) (Or.inl ⟨by rfl, ?_⟩) ?_ ?_
           rotate_left
           ·
            intro w'
            go_simp
            with_reducible rfl
           rotate_left
           ·
            simp only [Act.put, List.setIfInBounds_toArray, List.set_cons_zero, List.set_cons_succ, i64_w, i32_w]
            rfl
           refine pure_ (i := 5) (N := some 31) (v := ?_) (a' := ?_) #[true, true, true, false, true, true, false, false, false, false, false, false, false, false] rfl rfl (any_of HT_.out (by kernel_rfl)) (fun _ _ _ h => h) (Or.inl ⟨by rfl, ?_⟩) ?_ ?_
           rotate_left
           ·
            intro w'
            go_simp
            with_reducible rfl
           rotate_left
           ·
            simp only [Act.put, List.setIfInBounds_toArray, List.set_cons_zero, List.set_cons_succ, i64_w, i32_w]
            rfl
           refine pure_ (i := 6) (N := some 32) (v := ?_) (a' := ?_) #[true, true, true, false, true, true, true, false, false, false, false, false, false, false] rfl rfl (any_of HT_.out (by kernel_rfl)) (fun _ _ _ h => h) (Or.inl ⟨by rfl, ?_⟩) ?_ ?_
           rotate_left
           ·
            intro w'
            go_simp
            with_reducible rfl
           rotate_left
           ·
            simp only [Act.put, List.setIfInBounds_toArray, List.set_cons_zero, List.set_cons_succ, i64_w, i32_w]
            rfl
           refine take_ (i := 3) (N := some 29) (v := ?_) (a' := ?_) #[true, true, true, true, true, true, true, false, false, false, false, false, false, false] rfl rfl (take_ofW HT_.out HW_.out (by kernel_rfl)) (fun _ _ _ h => h) (Or.inl ⟨by rfl, ?_⟩) hHeld ?_ ?_
           rotate_left
           ·
            rintro w' ⟨s0, s1⟩
            go_simp
            with_reducible rfl
           rotate_left
           ·
            simp only [Act.put, List.setIfInBounds_toArray, List.set_cons_zero, List.set_cons_succ, i64_w, i32_w]
            rfl
           refine take_ (i := 7) (N := some 33) (v := ?_) (a' := ?_) #[true, true, true, true, true, true, true, true, false, false, false, false, false, false] rfl rfl (take_ofW HT_.out HW_.out (by kernel_rfl)) (fun _ _ _ h => h) (Or.inl ⟨by rfl, ?_⟩) hHeld ?_ ?_
           rotate_left
           ·
            rintro w' ⟨s0, s1⟩
            go_simp
            with_reducible rfl
           rotate_left
           ·
            simp only [Act.put, List.setIfInBounds_toArray, List.set_cons_zero, List.set_cons_succ, i64_w, i32_w]
            rfl
           refine one_ (i := 8) (N := some 34) #[true, true, true, true, true, true, true, true, true, false, false, false, false, false] rfl rfl (one_of HT_.out (by kernel_rfl)) (by decide) (fun K hK => ?_)
           refine goes_ Try.func61 (by kernel_rfl) rfl #[.slice A665_0 (rd_L2 x5_1 x8_2).length c665_0, .slice A666_0 (rd_L2 l1 x6_1).length c666_0] (by rfl) rfl rfl (by (try simp only [List.map_toArray, List.map_cons, List.map_nil]); first | done | rfl | (simp only [List.length_drop, List.length_take]; rfl)) ?_
           with_reducible refine (swashplateref01_Minus.calls k2 _ _ (rd_L2 x5_1 x8_2) _ _ (rd_L2 l1 x6_1) t667 t668 _ ?side1 ?side2 ?side3 ?side4 A10.out).mono ?_
           (case side1 => exact cr_ (by repeat (first | (with_reducible exact HR665_0.out) | (with_reducible refine Kd.C_alloc ?_ _) | (with_reducible refine Kd.C_drewN ?_ _) | (with_reducible refine Kd.C_drew ?_) | exact HR665_0.out)))
           (case side2 => exact HC665_0.out)
           (case side3 => exact cr_ (Kd.C_below HR666_0.out HB.out))
           (case side4 => exact HC666_0.out)
           rintro e w14 ⟨v669, rfl, ho0, hb⟩
           have HS0_ := (hb.cell (World.block_lt_of_cell? _ _ (hHeld.1))).trans (hHeld.1)
           refine ⟨_, rfl, ?_⟩
           have n0_ := Aside0.mk (Kd.N_elder' (by (with_reducible repeat (first | apply Kd.N_alloc | apply Kd.N_drewN | apply Kd.N_drew)); exact HO_5.out) (Kd.N_base (Kd.S_N ho0)) hb)
           have n1_ := Aside0.mk (Kd.N_elder' (by (with_reducible repeat (first | apply Kd.N_alloc | apply Kd.N_drewN | apply Kd.N_drew)); exact HO_7.out) (Kd.N_base (Kd.S_N ho0)) hb)
           have n2_ := Aside0.mk (Kd.V_elder' (by (with_reducible repeat (first | apply Kd.V_alloc | apply Kd.V_drewN | apply Kd.V_drew)); exact HL665_0.out) (Kd.N_base (Kd.S_N ho0)) hb)
           have n3_ := Aside0.mk (Kd.N_lower (Kd.N_mono (ok' := fun k_ => (P0_ k_ ∨ w.heap.size ≤ k_) ∧ some k_ ≠ (.slice (some ad665) x5_1.length co12 : Value).ownBlock ∧ some k_ ≠ (u7 : Value).ownBlock) (Kd.S_N (Kd.S_bound ho0)) (fun k_ hk_ => ⟨(.inr (Nat.le_trans (below_size (bl_ HB.out)) hk_.2.1)), (Kd.fresh' (Kd.N_lt (by (with_reducible repeat (first | apply Kd.N_alloc | apply Kd.N_drewN | apply Kd.N_drew)); exact HO_5.out)) k_ hk_.2.1), (Kd.fresh' (Kd.N_lt (by (with_reducible repeat (first | apply Kd.N_alloc | apply Kd.N_drewN | apply Kd.N_drew)); exact HO_7.out)) k_ hk_.2.1)⟩)) (below_size (bl_ HB.out)))
           have n4_ := Aside0.mk (Kd.C_below (by repeat (first | (with_reducible exact HR665_0.out) | (with_reducible refine Kd.C_alloc ?_ _) | (with_reducible refine Kd.C_drewN ?_ _) | (with_reducible refine Kd.C_drew ?_) | exact HR665_0.out)) hb)
           have n5_ := Aside0.mk (below_step (bl_ HB.out) hb)
           clear HO_5 HO_7 HL665_0 HR665_0 HB
           have HO_5 := n0_
           have HO_7 := n1_
           have HL665_0 := n2_
           have HO670 := n3_
           have HR665_0 := n4_
           have HB := n5_
           clear n0_ n1_ n2_ n3_ n4_ n5_
           (try clear hb)
           (try clear hb2)
           (try clear hk)
           (try clear hi)
           (try clear ho0)
           refine hK.out _ _ ⟨HS0_, ((HB.out.cell (World.block_lt_of_cell? w _ hw666_0)).trans hw666_0)⟩ (fun hHeld => ?_)
           clear hK K
           refine norm_ (a' := ?_) ?_ ?_
           rotate_left
           ·
            show Act.put _ (some 34) _ = _
            simp only [Act.put, List.setIfInBounds_toArray, List.set_cons_zero, List.set_cons_succ, i64_w, i32_w]
            rfl
           refine pure_ (i := 9) (N := some 25) (v := ?_) (a' := ?_) #[true, true, true, true, true, true, true, true, true, true, false, false, false, false] rfl rfl (any_of HT_.out (by kernel_rfl)) (fun _ _ _ h => h) (Or.inl ⟨by rfl, ?_⟩) ?_ ?_
           rotate_left
           ·
            intro w'
            go_simp
            with_reducible rfl
           rotate_left
           ·
            simp only [Act.put, List.setIfInBounds_toArray, List.set_cons_zero, List.set_cons_succ, i64_w, i32_w]
            rfl
           refine pure_ (i := 10) (N := some 35) (v := ?_) (a' := ?_) #[true, true, true, true, true, true, true, true, true, true, true, false, false, false] rfl rfl (any_of HT_.out (by kernel_rfl)) (fun _ _ _ h => h) (Or.inl ⟨by rfl, ?_⟩) ?_ ?_
           rotate_left
           ·
            intro w'
            go_simp
            with_reducible rfl
           rotate_left
           ·
            simp only [Act.put, List.setIfInBounds_toArray, List.set_cons_zero, List.set_cons_succ, i64_w, i32_w]
            rfl
           refine pure_ (i := 11) (N := some 36) (v := ?_) (a' := ?_) #[true, true, true, true, true, true, true, true, true, true, true, true, false, false] rfl rfl (any_of HT_.out (by kernel_rfl)) (fun _ _ _ h => h) (Or.inl ⟨by rfl, ?_⟩) ?_ ?_
           rotate_left
           ·
            intro w'
            go_simp
            with_reducible rfl
           rotate_left
           ·
            simp only [Act.put, List.setIfInBounds_toArray, List.set_cons_zero, List.set_cons_succ, i64_w, i32_w]
            rfl
           refine pure_ (i := 12) (N := some 9) (v := ?_) (a' := ?_) #[true, true, true, true, true, true, true, true, true, true, true, true, true, false] rfl rfl (any_of HT_.out (by kernel_rfl)) (fun _ _ _ h => h) (Or.inl ⟨by rfl, ?_⟩) ?_ ?_
           rotate_left
           ·
            intro w'
            go_simp
            with_reducible rfl
           rotate_left
           ·
            simp only [Act.put, List.setIfInBounds_toArray, List.set_cons_zero, List.set_cons_succ, i64_w, i32_w]
            rfl
           refine pure_ (i := 13) (N := some 10) (v := ?_) (a' := ?_) #[true, true, true, true, true, true, true, true, true, true, true, true, true, true] rfl rfl (any_of HT_.out (by kernel_rfl)) (fun _ _ _ h => h) (Or.inl ⟨by rfl, ?_⟩) ?_ ?_
           rotate_left
           ·
            intro w'
            go_simp
            with_reducible rfl
           rotate_left
           ·
            simp only [Act.put, List.setIfInBounds_toArray, List.set_cons_zero, List.set_cons_succ, i64_w, i32_w]
            rfl
           refine done_ (done_of HT_.out (by kernel_rfl)) ?_
           obtain ⟨Ao16, co16, eo16⟩ := Kd.N_slice HO670.out
           subst eo16
           try go_wp2_with (first | ((with_reducible refine gate_builtin (b := .append) (xs := #[.tmp 37, .tmp 38]) rfl ?_); at_builtin; refine Kd.N_append_rows (Kd.slice 27 k27) (w0 := w) w.heap.size rfl (.tmp 37) (.tmp 38) 95 38 (.slice none 0 0) 24 rfl Try.underlying95 info38 rfl (by decide) (by omega) u7 x7_2 t667 _ _ _ (fun k_ => (P0_ k_ ∨ w.heap.size ≤ k_) ∧ some k_ ≠ (.slice (some ad665) x5_1.length co12 : Value).ownBlock) (fun k_ => ((fun k_ => (P0_ k_ ∨ w.heap.size ≤ k_) ∧ some k_ ≠ (.slice (some ad665) x5_1.length co12 : Value).ownBlock)) k_ ∧ some k_ ≠ (u7 : Value).ownBlock) rfl rfl ?aO ?aR (fun _ hk => hk) ?aF ?aB ?aS ?aL ?_; (case aR => exact (by skip; exact Kd.N_F (Kd.N_mono (ok' := (fun k_ => ((fun k_ => (P0_ k_ ∨ w.heap.size ≤ k_) ∧ some k_ ≠ (.slice (some ad665) x5_1.length co12 : Value).ownBlock)) k_ ∧ some k_ ≠ (u7 : Value).ownBlock)) (HO670.out) (fun k_ hk => ⟨⟨hk.1, hk.2.1⟩, hk.2.2⟩)))); (case aB => exact (bl_ HB.out)); (case aF => exact (fun k_ hk => ⟨(.inr (Nat.le_trans (below_size (bl_ HB.out)) hk)), Kd.fresh' (Kd.N_lt (by (with_reducible repeat (first | apply Kd.N_alloc | apply Kd.N_drewN | apply Kd.N_drew)); exact HO_5.out)) k_ hk⟩)); (case aO => exact (by (with_reducible repeat (first | apply Kd.N_alloc | apply Kd.N_drewN | apply Kd.N_drew)); exact Kd.N_mono HO_7.out (fun _ hk => ⟨hk.1.1, hk.1.2⟩))); (case aS => exact (below_size (bl_ HB.out))); (case aL => have := LMc11.out; omega); intro v672 w15 ho hb hg hat; rw [← Ny671.out] at ho; have n0_ := Aside0.mk (Kd.N_afterv (ok := (fun k_ => (P0_ k_ ∨ w.heap.size ≤ k_) ∧ some k_ ≠ (.slice Ao16 t667.length co16 : Value).ownBlock)) (by (with_reducible repeat (first | apply Kd.N_alloc | apply Kd.N_drewN | apply Kd.N_drew)); exact Kd.N_mono HO_5.out (fun _ hk => ⟨⟨hk.1.1, hk.2⟩, hk.1.2⟩)) hg hat); have n1_ := Aside0.mk (Kd.V_afterv (ok := (fun k_ => (P0_ k_ ∨ w.heap.size ≤ k_) ∧ some k_ ≠ (.slice (some ad665) x5_1.length co12 : Value).ownBlock ∧ some k_ ≠ (.slice Ao16 t667.length co16 : Value).ownBlock)) (by (with_reducible repeat (first | apply Kd.V_alloc | apply Kd.V_drewN | apply Kd.V_drew)); exact Kd.V_mono HL665_0.out (fun _ hk => ⟨⟨hk.1.1.1, ⟨hk.1.2, hk.2⟩⟩, hk.1.1.2⟩)) hg hat); have n2_ := Aside0.mk (Kd.N_afterv (ok := (fun k_ => (P0_ k_ ∨ w.heap.size ≤ k_) ∧ some k_ ≠ (.slice (some ad665) x5_1.length co12 : Value).ownBlock)) (by (with_reducible repeat (first | apply Kd.N_alloc | apply Kd.N_drewN | apply Kd.N_drew)); exact Kd.N_mono HO670.out (fun _ hk => ⟨⟨hk.1, hk.2.1⟩, hk.2.2⟩)) hg hat); have n3_ := Aside0.mk (hb); have n4_ := Aside0.mk (ho); clear HO_5 HL665_0 HO670 HB HO_7; have HO_5 := n0_; have HL665_0 := n1_; have HO670 := n2_; have HB := n3_; have HO673 := n4_; clear n0_ n1_ n2_ n3_ n4_ ho hb hg hat))
           go_roundg k2
           case measure => have := HK1.out; have := HK2.out; omega
           case rel => exact ⟨(y671), (wrap64 (x8_2 + 1)), (by first | rfl | (simp; done) | (simp [*]; done)), H', ⟨by have := HK1.out; have := HK2.out; omega⟩, ⟨by (with_reducible repeat (first | apply Kd.N_alloc | apply Kd.N_drewN | apply Kd.N_drew)); exact Kd.N_mono HO_5.out (fun _ hk => ⟨hk.1.1, hk.2⟩)⟩, ⟨by (with_reducible repeat (first | apply Kd.N_alloc | apply Kd.N_drewN | apply Kd.N_drew)); exact HO673.out⟩, ⟨bl_ HB.out⟩⟩
          ·
           rw [if_neg c11] at H
           exact absurd H (by simp)
         ·
          rw [if_neg c9] at H
          exact absurd H (by simp)
        ·
         rw [if_neg c8] at H
         exact absurd H (by simp)
       ·
        rw [if_neg c7] at H
        exact absurd H (by simp)
      ·
       rw [if_neg c6] at H
       have c6b0 : decide (x8_2 < (x5_1.length : Int)) = false := decide_eq_false c6
       clear c6
       have H' := Aside0.mk H
       clear H
       obtain ⟨Ao17, co17, eo17⟩ := Kd.N_slice HO_5.out
       subst eo17
       go_wp2
       go_roundg k2
       case measure => have := HK1.out; have := HK2.out; omega
       case rel => exact ⟨(x7_2), (wrap64 (x6_1 + 1)), (by first | rfl | (simp; done) | (simp [*]; done)), H', ⟨by have := HK1.out; have := HK2.out; omega⟩, ⟨by (with_reducible repeat (first | apply Kd.N_alloc | apply Kd.N_drewN | apply Kd.N_drew)); exact Kd.N_mono HO_7.out (fun _ hk => hk.1)⟩, ⟨bl_ HB.out⟩⟩
   ·
    rw [if_neg c5] at H
    have c5b0 : decide (x6_1 < (l1.length : Int)) = false := decide_eq_false c5
    clear c5
    obtain rfl := Option.some.inj H
    go_wp2
    go_ret
    exact ⟨_, by first | rfl | (simp [errW_none, errW_some] <;> rfl) | (simp [*, errW_none, errW_some] <;> rfl), by (with_reducible repeat (first | apply Kd.N_alloc | apply Kd.N_drewN | apply Kd.N_drew)); exact HO_5.out, bl_ HB.out⟩
end Go.Proofs.Yteodlmgmmpkpoaa.PS
end
