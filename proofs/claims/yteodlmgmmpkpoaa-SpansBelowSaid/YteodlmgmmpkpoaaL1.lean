-- Printed by a program of this session out of the translation (hybrid print) and out of hand proofs. Not trusted: Lean checks it.
import Derived.Below
import Derived.Deep.Draws
import Derived.Deep.AppendLies
import Derived.Maps.AppendAt
import Derived.OwnWalk
import Derived.Laws.BytesArg
import Derived.Laws.MakeOwn
import Derived.Laws.OwnMore
import Derived.Deep.OwnRows
import Derived.Tactics
import Derived.Lib.ConvBytes
import Derived.Laws.Slices
import Derived.WalkKit
import Derived.KernelRfl
import Derived.RowKit3
import Derived.Deep.LoopGhost
import Derived.Deep.QuietTactic
import Derived.BigQuiet
import Derived.WideLaws
import Derived.Deep.DeepCutAuto
import Derived.Deep.CutBlock
import Derived.Deep.RegionHeld3
import Derived.Laws.Rows
import Derived.Lib.AppendStr
import Derived.ArgAppend
import Derived.Laws.IdiomCopy
import Derived.RowKit
import Derived.Test.YteodlmgmmpkpoaaL0
section
namespace Go.Proofs.Yteodlmgmmpkpoaa.PS
set_option linter.unusedVariables false
def flP (p : Pt) : Int := p.n / p.d
def ceP (p : Pt) : Int := -((-p.n) / p.d)
def foldHi (l : List Pt) (a : Int) : Int := l.foldl (fun m q => max m (ceP q)) a
def spans_Below.f (X Y : List Int) (V : List (List Int)) (a0 a1 b0 b1 limit : Int) : Option (Int × Int × Bool × Int) :=
  some (if pointsE X Y V a0 a1 b0 b1 = 0 then
    (match (ptsL X Y V a0 a1 b0 b1).find? (fun p => decide (limit < ceP p)) with
      | some p => (p.x, p.y, false, 0)
      | none => (0, 0, true, 0))
    else (0, 0, false, pointsE X Y V a0 a1 b0 b1))
end Go.Proofs.Yteodlmgmmpkpoaa.PS
end
section
namespace Go.Proofs.Yteodlmgmmpkpoaa.PS
open Go.RowKit Go.Proofs.YteodlmgmmpkpoaaW.PrintWords Go.Proofs.YteodlmgmmpkpoaaW.PrintLast Go.Proofs.YteodlmgmmpkpoaaW.PrintMore
attribute [local go_sem] max2_int min2_int max_two min_two max_three min_three max_four min_four   -- for this text's walks alone
set_option linter.unusedVariables false
set_option linter.unusedSimpArgs false
def swashplateref01_floor.f (a0 : Int) (a1 : Int) : Option (Int) := if a0 ≥ 0 then (if a1 = 0 then (none) else (some (wrap64 (Int.tdiv a0 a1)))) else (if a1 = 0 then (none) else (some (wrap64 (-(wrap64 (Int.tdiv (wrap64 ((wrap64 ((wrap64 (-a0)) + a1)) - 1)) a1))))))
set_option maxHeartbeats 8000000 in
set_option maxRecDepth 100000 in
theorem swashplateref01_floor.calls (a0 : Int) (a1 : Int) (r : Int) (w : World) (h : swashplateref01_floor.f a0 a1 = some r) :
  Calls Try.prog 107 #[.int .i64 a0, .int .i64 a1] w fun e w' => e = .returned (.int .i64 r) ∧ Drawn0 w w' := by
 have H : (if a0 ≥ 0 then (if a1 = 0 then (none) else (some (wrap64 (Int.tdiv a0 a1)))) else (if a1 = 0 then (none) else (some (wrap64 (-(wrap64 (Int.tdiv (wrap64 ((wrap64 ((wrap64 (-a0)) + a1)) - 1)) a1))))))) = some r := h
 clear h
 by_cases c3 : a0 ≥ 0
 ·
  rw [if_pos c3] at H
  have c3b0 : decide (0 ≤ a0) = true := decide_eq_true c3
  clear c3
  by_cases c4 : a1 = 0
  ·
   rw [if_pos c4] at H
   exact absurd H (by simp)
  ·
   rw [if_neg c4] at H
   have c4b0 : (a1 == 0) = false := beq_eq_false_iff_ne.mpr c4
   have c4b1 : (a1 != 0) = true := bne_iff_ne.mpr c4
   obtain rfl := Option.some.inj H
   go_enter Try.func107, Try.ntmps107
   go_wp2
   go_ret
   exact ⟨by first | rfl | (simp; done) | (simp [*]; done), by repeat (first | exact Drawn0.refl _ | apply Drawn0.step)⟩
 ·
  rw [if_neg c3] at H
  have c3b0 : decide (0 ≤ a0) = false := decide_eq_false c3
  clear c3
  by_cases c5 : a1 = 0
  ·
   rw [if_pos c5] at H
   exact absurd H (by simp)
  ·
   rw [if_neg c5] at H
   have c5b0 : (a1 == 0) = false := beq_eq_false_iff_ne.mpr c5
   have c5b1 : (a1 != 0) = true := bne_iff_ne.mpr c5
   obtain rfl := Option.some.inj H
   go_enter Try.func107, Try.ntmps107
   go_wp2
   go_ret
   exact ⟨by first | rfl | (simp; done) | (simp [*]; done), by repeat (first | exact Drawn0.refl _ | apply Drawn0.step)⟩
end Go.Proofs.Yteodlmgmmpkpoaa.PS
end
section
namespace Go.Proofs.Yteodlmgmmpkpoaa.PS
open Go.RowKit Go.Proofs.YteodlmgmmpkpoaaW.PrintWords Go.Proofs.YteodlmgmmpkpoaaW.PrintLast Go.Proofs.YteodlmgmmpkpoaaW.PrintMore
attribute [local go_sem] max2_int min2_int max_two min_two max_three min_three max_four min_four   -- for this text's walks alone
set_option linter.unusedVariables false
set_option linter.unusedSimpArgs false
def swashplateref01_ceil.f (a0 : Int) (a1 : Int) : Option (Int) := (swashplateref01_floor.f (wrap64 (-a0)) a1).bind fun t181 => (some (wrap64 (-t181)))
set_option maxHeartbeats 8000000 in
set_option maxRecDepth 100000 in
theorem swashplateref01_ceil.calls (a0 : Int) (a1 : Int) (r : Int) (w : World) (h : swashplateref01_ceil.f a0 a1 = some r) :
  Calls Try.prog 108 #[.int .i64 a0, .int .i64 a1] w fun e w' => e = .returned (.int .i64 r) ∧ Drawn0 w w' := by
 have H : ((swashplateref01_floor.f (wrap64 (-a0)) a1).bind fun t181 => (some (wrap64 (-t181)))) = some r := h
 clear h
 replace H := Option.bind_eq_some_iff.mp H
 obtain ⟨t181, A30, H⟩ := H
 replace H : (some (wrap64 (-t181))) = some r := H
 have A3 := Aside0.mk A30
 clear A30
 obtain rfl := Option.some.inj H
 go_enter Try.func108, Try.ntmps108
 go_wp2_with (first | ((with_reducible refine gate_callee (f := 107) rfl ?_); refine goesL_ (some 8) rfl rfl Try.func107 (by kernel_rfl) rfl #[.int .i64 (wrap64 (-a0)), .int .i64 a1] rfl (by (try simp only [List.map_toArray, List.map_cons, List.map_nil]); first | done | rfl | (simp only [List.length_drop, List.length_take]; rfl)) ?_; (with_reducible refine (swashplateref01_floor.calls (wrap64 (-a0)) a1 t181 _ A3.out).mono ?_); rintro e w' ⟨rfl, ⟨nd, rfl⟩⟩; refine ⟨_, rfl, ?_⟩))
 go_ret
 exact ⟨by first | rfl | (simp; done) | (simp [*]; done), by repeat (first | exact Drawn0.refl _ | apply Drawn0.step)⟩
end Go.Proofs.Yteodlmgmmpkpoaa.PS
end
section
namespace Go.Proofs.Yteodlmgmmpkpoaa.PS
open Go.RowKit Go.Proofs.YteodlmgmmpkpoaaW.PrintWords Go.Proofs.YteodlmgmmpkpoaaW.PrintLast Go.Proofs.YteodlmgmmpkpoaaW.PrintMore
set_option linter.unusedVariables false
theorem ceil_total (a b : Int) (hb : 0 < b) (h0 : -4000000000000000000 ≤ a) (h1 : a ≤ 4000000000000000000) : spans_ceil.f a b = some (-((-a) / b)) := by
  unfold spans_ceil.f
  rw [wr64 (by omega) (by omega), floor_total _ _ hb (by omega) (by omega), Option.bind_some]
  have hq := ediv_bd (a := -a) hb (B := 4000000000000000000) (by omega) (by omega) (by decide)
  rw [wr64 (by omega) (by omega)]
theorem up_total (a b : Int) (hb : 0 < b) (h0 : -4000000000000000000 ≤ a) (h1 : a ≤ 4000000000000000000) : spans_value_up.f a b = some (-((-a) / b)) := by
  unfold spans_value_up.f
  rw [ceil_total _ _ hb h0 h1]
  rfl
theorem rfloor_total (a b : Int) (hb : 0 < b) (hb1 : b ≤ 1000000000000) (h0 : -4000000000000000000 ≤ a) (h1 : a ≤ 4000000000000000000) : swashplateref01_floor.f a b = some (a / b) := by
  unfold swashplateref01_floor.f
  have hq := ediv_bd hb h0 h1 (by decide)
  by_cases ha : a ≥ 0
  · rw [if_pos ha, if_neg (by omega), Int.tdiv_eq_ediv_of_nonneg ha, wr64 (by omega) (by omega)]
  · rw [if_neg ha]
    have e1 : wrap64 (wrap64 (wrap64 (-a) + b) - 1) = -a + b - 1 := by
      rw [show wrap64 (-a) = -a from wr64 (by omega) (by omega), show wrap64 (-a + b) = -a + b from wr64 (by omega) (by omega), wr64 (by omega) (by omega)]
    rw [e1, if_neg (by omega), Int.tdiv_eq_ediv_of_nonneg (by omega)]
    have e2 : (-a + b - 1) / b = -(a / b) := by
      rw [Int.ediv_eq_iff_of_pos hb]
      have := Int.mul_ediv_add_emod a b
      have hm0 := Int.emod_nonneg a (show b ≠ 0 by omega)
      have hm1 := Int.emod_lt_of_pos a hb
      have e3 : -(a / b) * b = -(b * (a / b)) := by rw [Int.neg_mul, Int.mul_comm]
      rw [e3]
      omega
    rw [e2, show wrap64 (-(a / b)) = -(a / b) from wr64 (by omega) (by omega), Int.neg_neg, wr64 (by omega) (by omega)]
theorem rceil_total (a b : Int) (hb : 0 < b) (hb1 : b ≤ 1000000000000) (h0 : -4000000000000000000 ≤ a) (h1 : a ≤ 4000000000000000000) : swashplateref01_ceil.f a b = some (-((-a) / b)) := by
  unfold swashplateref01_ceil.f
  rw [wr64 (by omega) (by omega), rfloor_total _ _ hb hb1 (by omega) (by omega), Option.bind_some]
  have hq := ediv_bd (a := -a) hb (B := 4000000000000000000) (by omega) (by omega) (by decide)
  rw [wr64 (by omega) (by omega)]
theorem rcorners_loop (l : List Int) (hl : l.length ≤ 12) (lo hi : Int) : ∀ (d k i : Nat) (acc : List Int), l.length - i = d → i ≤ l.length → d < k → acc.length ≤ 1 + i →
    swashplateref01_corners.l0 k l acc i lo hi = some ((acc ++ (l.drop i).filter (fun x => decide (lo < x) && decide (x < hi))) ++ (if lo < hi then [hi] else []))
  | d, k, i, acc, hd, hi', hk, ha => by
    obtain ⟨k, rfl⟩ : ∃ m, k = m + 1 := ⟨k - 1, by omega⟩
    simp only [swashplateref01_corners.l0]
    by_cases hlt : i < l.length
    · obtain ⟨d, rfl⟩ : ∃ m, d = m + 1 := ⟨d - 1, by omega⟩
      rw [if_pos (by omega), if_pos (by omega), rd_nat, drop_step l i hlt, List.filter_cons]
      have e1 : wrap64 ((i : Int) + 1) = ((i + 1 : Nat) : Int) := by rw [wr64 (by omega) (by omega)]; rfl
      rw [e1]
      by_cases h1 : gI l i > lo
      · rw [if_pos h1]
        by_cases h2 : gI l i < hi
        · rw [if_pos h2, if_pos (by omega)]
          rw [rcorners_loop l hl lo hi d k (i + 1) _ (by omega) (by omega) (by omega) (by simp; omega)]
          simp [h1, h2]
        · rw [if_neg h2]
          rw [rcorners_loop l hl lo hi d k (i + 1) _ (by omega) (by omega) (by omega) (by omega)]
          simp [h2]
      · rw [if_neg h1]
        rw [rcorners_loop l hl lo hi d k (i + 1) _ (by omega) (by omega) (by omega) (by omega)]
        have : ¬ lo < gI l i := by omega
        simp [this]
    · rw [if_neg (by omega), List.drop_of_length_le (by omega)]
      by_cases h1 : hi > lo
      · rw [if_pos h1, if_pos (by omega), if_pos (by omega)]; simp
      · rw [if_neg h1, if_neg (by omega)]; simp
theorem rcorners_total (l : List Int) (hl : l.length ≤ 12) (lo hi : Int) (k : Nat) (hk : 12 < k) : swashplateref01_corners.f k l lo hi = some (stopsL l lo hi) := by
  unfold swashplateref01_corners.f stopsL
  have := rcorners_loop l hl lo hi (l.length - 0) k 0 [lo] rfl (Nat.zero_le _) (by omega) (by simp)
  rw [show ((0 : Nat) : Int) = 0 from rfl] at this
  rw [this, List.drop_zero]
  rfl
end Go.Proofs.Yteodlmgmmpkpoaa.PS
end
section
namespace Go.Proofs.Yteodlmgmmpkpoaa.PS
open Go.RowKit Go.Deep Go.ChangeShapes Go.WideShapes Go.ChangeAt Go.Proofs.YteodlmgmmpkpoaaW.PrintWords
set_option linter.unusedVariables false
section
variable {H : Type} {enc : TypeId × Value → H} {w : World} {base : Nat} {held : Bool} {v : Value} {d : DataW H} {ps : List MemPlace} {r : Reach} {b0 : Nat}
set_option maxRecDepth 100000 in
theorem area_cells {n : Nat} {cs : List Value} {x : DataW H × List MemPlace} (h : DataW.trod enc Try.prog w base (fun _ => true) held n 43 cs = some x) : ∃ a b c e : Int, cs = [.int .i64 a, .int .i64 b, .int .i64 c, .int .i64 e] := by
  obtain ⟨y0, y1, n, _, hl, h0, h1⟩ := trod_struct2 Try.underlying43 h
  have e2 : Try.prog.cellsOf 27 = 2 := by kernel_rfl
  have e4 : Try.prog.cellsOf 43 = 4 := by kernel_rfl
  rw [e4] at hl
  match cs, hl with
  | [c0, c1, c2, c3], _ =>
    simp only [e2, List.drop_zero, List.drop_succ_cons, List.take_succ_cons, List.take_zero] at h0 h1
    obtain ⟨s, hs, _⟩ := opn27.2 H enc w base held n _ _ h0
    obtain ⟨t, ht, _⟩ := opn27.2 H enc w base held n _ _ h1
    have e := k27_open hs
    have e' := k27_open ht
    simp only [List.cons.injEq, and_true] at e e'
    obtain ⟨rfl, rfl⟩ := e
    obtain ⟨rfl, rfl⟩ := e'
    exact ⟨_, _, _, _, rfl⟩
set_option maxRecDepth 100000 in
theorem arg43 (hv : Value.okWide Try.prog w r b0 43 v) (h : DataW.Trod enc Try.prog w base (fun _ => true) held 43 v d ps) :
    ∃ a b c e : Int, v = .agg #[.int .i64 a, .int .i64 b, .int .i64 c, .int .i64 e] := by
  obtain ⟨cs, rfl, hsz⟩ := okWide_struct Try.underlying43 hv
  obtain ⟨fuel, hf⟩ := h
  obtain ⟨a, b, c, e, hc⟩ := area_cells hf
  simp only [Value.cells] at hc
  exact ⟨a, b, c, e, by rw [← Array.toArray_toList (xs := cs), hc]⟩
end
end Go.Proofs.Yteodlmgmmpkpoaa.PS
end
section
namespace Go.Proofs.Yteodlmgmmpkpoaa.PS
set_option linter.unusedVariables false
theorem spots_meet {l : List Int} (h : Ax l) {x : Int} {i j : Nat} (a : Spot l x i) (b : Spot l x j) : i = j ∨ (j = i + 1 ∧ x = gI l j) ∨ (i = j + 1 ∧ x = gI l i) := by
  have a1 := a.lo; have a2 := a.hi; have a3 := a.lt
  have b1 := b.lo; have b2 := b.hi; have b3 := b.lt
  rcases Nat.lt_trichotomy i j with hlt | heq | hgt
  · right; left
    by_cases he : j = i + 1
    · subst he; exact ⟨rfl, by omega⟩
    · have := h.asc (i + 1) j (by omega) (by omega); omega
  · exact .inl heq
  · right; right
    by_cases he : i = j + 1
    · subst he; exact ⟨rfl, by omega⟩
    · have := h.asc (j + 1) i (by omega) (by omega); omega
theorem line_eq {l : List Int} (h : Ax l) {x : Int} {i j : Nat} (a : Spot l x i) (b : Spot l x j) (f : Nat → Int) :
    ((gI l (i + 1) - x) * f i + (x - gI l i) * f (i + 1)) * (gI l (j + 1) - gI l j) = ((gI l (j + 1) - x) * f j + (x - gI l j) * f (j + 1)) * (gI l (i + 1) - gI l i) := by
  rcases spots_meet h a b with rfl | ⟨rfl, hx⟩ | ⟨rfl, hx⟩
  · rfl
  · rw [hx]; simp only [Int.sub_self, Int.zero_mul, Int.zero_add, Int.add_zero]; grind
  · rw [hx]; simp only [Int.sub_self, Int.zero_mul, Int.zero_add, Int.add_zero]; grind
theorem numAt_x (X Y : List Int) (V : List (List Int)) (i k : Nat) (x y : Int) :
    numAt X Y V i k x y = (gI X (i + 1) - x) * ((gI Y (k + 1) - y) * gV V i k + (y - gI Y k) * gV V i (k + 1)) + (x - gI X i) * ((gI Y (k + 1) - y) * gV V (i + 1) k + (y - gI Y k) * gV V (i + 1) (k + 1)) := by
  unfold numAt; grind
theorem numAt_y (X Y : List Int) (V : List (List Int)) (i k : Nat) (x y : Int) :
    numAt X Y V i k x y = (gI Y (k + 1) - y) * ((gI X (i + 1) - x) * gV V i k + (x - gI X i) * gV V (i + 1) k) + (y - gI Y k) * ((gI X (i + 1) - x) * gV V i (k + 1) + (x - gI X i) * gV V (i + 1) (k + 1)) := by
  unfold numAt; grind
theorem frac_eq {X Y : List Int} {V : List (List Int)} (hx : Ax X) (hy : Ax Y) {x y : Int} {i i' k k' : Nat} (a : Spot X x i) (a' : Spot X x i') (b : Spot Y y k) (b' : Spot Y y k') :
    numAt X Y V i k x y * denAt X Y i' k' = numAt X Y V i' k' x y * denAt X Y i k := by
  have e1 := line_eq hx a a' (fun m => (gI Y (k + 1) - y) * gV V m k + (y - gI Y k) * gV V m (k + 1))
  have e2 := line_eq hy b b' (fun m => (gI X (i' + 1) - x) * gV V i' m + (x - gI X i') * gV V (i' + 1) m)
  rw [← numAt_x X Y V i k x y, ← numAt_x X Y V i' k x y] at e1
  rw [← numAt_y X Y V i' k x y, ← numAt_y X Y V i' k' x y] at e2
  unfold denAt
  generalize numAt X Y V i k x y = n1 at *
  generalize numAt X Y V i' k x y = n2 at *
  generalize numAt X Y V i' k' x y = n3 at *
  generalize gI X (i + 1) - gI X i = p at *
  generalize gI X (i' + 1) - gI X i' = p' at *
  generalize gI Y (k + 1) - gI Y k = q at *
  generalize gI Y (k' + 1) - gI Y k' = q' at *
  calc n1 * (p' * q') = (n1 * p') * q' := by rw [Int.mul_assoc]
    _ = (n2 * p) * q' := by rw [e1]
    _ = (n2 * q') * p := by rw [Int.mul_assoc, Int.mul_comm p q', ← Int.mul_assoc]
    _ = (n3 * q) * p := by rw [e2]
    _ = n3 * (p * q) := by rw [Int.mul_assoc, Int.mul_comm q p]
theorem div_eq {n d n' d' : Int} (hd : 0 < d) (hd' : 0 < d') (h : n * d' = n' * d) : n / d = n' / d' := by
  rw [← Int.mul_ediv_mul_of_pos_left n d hd', h, Int.mul_comm d d', Int.mul_ediv_mul_of_pos_left n' d' hd]
theorem fl_ce_eq {n d n' d' : Int} (hd : 0 < d) (hd' : 0 < d') (h : n * d' = n' * d) : n / d = n' / d' ∧ -((-n) / d) = -((-n') / d') := by
  refine ⟨div_eq hd hd' h, ?_⟩
  rw [div_eq (n := -n) (n' := -n') hd hd' (by rw [Int.neg_mul, Int.neg_mul, h])]
theorem fl_mono {n d n' d' : Int} (hd : 0 < d) (hd' : 0 < d') (h : n * d' ≤ n' * d) : n / d ≤ n' / d' := by
  rw [← Int.mul_ediv_mul_of_pos_left n d hd', ← Int.mul_ediv_mul_of_pos_left n' d' hd, Int.mul_comm d' d]
  exact Int.ediv_le_ediv (Int.mul_pos hd hd') h
end Go.Proofs.Yteodlmgmmpkpoaa.PS
end
section
namespace Go.Proofs.Yteodlmgmmpkpoaa.PS
set_option linter.unusedVariables false
theorem ce_most (m q : Pt) (hm : 0 < m.d) (hq : 0 < q.d) : ceP (if ltP m q then q else m) = max (ceP m) (ceP q) := by
  unfold ceP ltP
  by_cases h : m.n * q.d < q.n * m.d
  · rw [if_pos (by simpa using h)]
    have := fl_mono (n := -q.n) (n' := -m.n) hq hm (by rw [Int.neg_mul, Int.neg_mul]; omega)
    omega
  · rw [if_neg (by simpa using h)]
    have := fl_mono (n := -m.n) (n' := -q.n) hm hq (by rw [Int.neg_mul, Int.neg_mul]; omega)
    omega
theorem pos_pick {c : Bool} {m q : Pt} (hm : 0 < m.d) (hq : 0 < q.d) : 0 < (if c then q else m).d := by
  cases c
  · exact hm
  · exact hq
theorem ce_foldl : ∀ (l : List Pt) (m : Pt), 0 < m.d → (∀ q ∈ l, 0 < q.d) → ceP (l.foldl (fun m q => if ltP m q then q else m) m) = foldHi l (ceP m)
  | [], m, _, _ => rfl
  | q :: l, m, hm, hl => by
    have hq := hl q (by simp)
    have ih := ce_foldl l (if ltP m q then q else m) (pos_pick hm hq) (fun x hx => hl x (by simp [hx]))
    rw [List.foldl_cons, ih, ce_most m q hm hq]
    rfl
theorem ce_mostP (p : Pt) (l : List Pt) (h : ∀ q ∈ p :: l, 0 < q.d) : ceP (mostP (p :: l)) = foldHi (p :: l) (ceP p) := by
  have := ce_foldl l p (h p (by simp)) (fun q hq => h q (by simp [hq]))
  unfold mostP
  rw [this]
  unfold foldHi
  rw [List.foldl_cons, show max (ceP p) (ceP p) = ceP p by omega]
end Go.Proofs.Yteodlmgmmpkpoaa.PS
end
section
namespace Go.Proofs.Yteodlmgmmpkpoaa.PS
set_option linter.unusedVariables false
theorem grid_map {β : Type} (xs ys : List Int) (f g : Int → Int → Pt) (h : Pt → β) (he : ∀ x ∈ xs, ∀ y ∈ ys, h (f x y) = h (g x y)) : (gridL xs ys f).map h = (gridL xs ys g).map h := by
  unfold gridL
  rw [List.map_flatMap, List.map_flatMap]
  induction xs with
  | nil => rfl
  | cons a l ih =>
    rw [List.flatMap_cons, List.flatMap_cons, ih (fun x hx => he x (List.mem_cons_of_mem _ hx)), List.map_map, List.map_map]
    congr 1
    exact List.map_congr_left fun y hy => he a List.mem_cons_self y hy
theorem den_pos {X Y : List Int} (hx : Ax X) (hy : Ax Y) {i k : Nat} (hi : i + 1 < X.length) (hk : k + 1 < Y.length) : 0 < denAt X Y i k := by
  unfold denAt
  have e1 := hx.asc i (i + 1) (by omega) hi
  have e2 := hy.asc k (k + 1) (by omega) hk
  exact Int.mul_pos (by omega) (by omega)
theorem pt_eq {X Y : List Int} {V : List (List Int)} (t : Tb X Y V) {x y : Int} (hx : onB X x x = true) (hy : onB Y y y = true) : flP (ptAt X Y V x y) = flP (ptRef X Y V x y) ∧ ceP (ptAt X Y V x y) = ceP (ptRef X Y V x y) := by
  have sx := cell_spot t.ax hx
  have sx' := part_spot t.ax hx
  have sy := cell_spot t.ay hy
  have sy' := part_spot t.ay hy
  exact fl_ce_eq (den_pos t.ax t.ay sx.lt sy.lt) (den_pos t.ax t.ay sx'.lt sy'.lt) (frac_eq t.ax t.ay sx sx' sy sy')
end Go.Proofs.Yteodlmgmmpkpoaa.PS
end
section
namespace Go.Proofs.Yteodlmgmmpkpoaa.PS
open Go.RowKit Go.Proofs.YteodlmgmmpkpoaaW.PrintWords Go.Proofs.YteodlmgmmpkpoaaW.PrintLast Go.Proofs.YteodlmgmmpkpoaaW.PrintMore
set_option linter.unusedVariables false
theorem spanned2 (a0 a1 b0 b1 : Int) : spans_spanned.f [⟨a0, a1⟩, ⟨b0, b1⟩] = some (if okS a0 a1 && okS b0 b1 then 0 else 10) := by
  unfold spans_spanned.f
  simp only [List.all_cons, List.all_nil, Bool.and_true]
end Go.Proofs.Yteodlmgmmpkpoaa.PS
end
section
namespace Go.Proofs.Yteodlmgmmpkpoaa.PS
open Go.RowKit Go.Proofs.YteodlmgmmpkpoaaW.PrintWords Go.Proofs.YteodlmgmmpkpoaaW.PrintLast Go.Proofs.YteodlmgmmpkpoaaW.PrintMore
set_option linter.unusedVariables false
theorem lies_total {l : List Int} (h : 2 ≤ l.length) (hl : l.length ≤ 15) (a b : Int) : spans_lies.f l a b = some (onB l a b) := by
  have e : wrap64 ((l.length : Int) - 1) = ((l.length - 1 : Nat) : Int) := by rw [wr64 (by omega) (by omega)]; omega
  have e0 : rd l 0 = gI l 0 := rd_nat l 0
  unfold spans_lies.f onB
  rw [if_pos (by omega), e0, e]
  by_cases h1 : a ≥ gI l 0
  · rw [if_pos h1, if_pos (by omega), if_pos (by omega), rd_nat, decide_eq_true (show gI l 0 ≤ a from h1), Bool.true_and]
  · rw [if_neg h1, decide_eq_false (show ¬ gI l 0 ≤ a from h1), Bool.false_and]
theorem cp_total (X Y : List Int) (V : List (List Int)) (a0 a1 b0 b1 : Int) : spans_checkPoints.f X Y V a0 a1 b0 b1 = some (pointsE X Y V a0 a1 b0 b1) := by
  unfold spans_checkPoints.f pointsE spans_CheckTable.f
  rw [Option.bind_some]
  cases ht : tableB X Y V with
  | false => rfl
  | true =>
    obtain ⟨⟨x0, x1⟩, y0, y1⟩ := tb_lens ht
    rw [if_pos rfl, if_pos rfl, if_pos rfl, spanned2, Option.bind_some]
    cases okS a0 a1 && okS b0 b1 with
    | false => rfl
    | true =>
      rw [if_pos rfl, if_pos rfl, if_pos rfl, lies_total x0 (by omega), Option.bind_some]
      cases onB X a0 a1 with
      | false => rfl
      | true =>
        rw [if_pos rfl, lies_total y0 (by omega), Option.bind_some]
        cases onB Y b0 b1 <;> rfl
theorem points_iff (X Y : List Int) (V : List (List Int)) (a0 a1 b0 b1 : Int) : pointsE X Y V a0 a1 b0 b1 = 0 ↔ pointsB X Y V a0 a1 b0 b1 = true := by
  unfold pointsE pointsB
  cases tableB X Y V <;> cases (okS a0 a1 && okS b0 b1) <;> cases (onB X a0 a1 && onB Y b0 b1) <;> simp
structure Box2 (X Y : List Int) (V : List (List Int)) (a0 a1 b0 b1 : Int) : Prop where
  tab : tableB X Y V = true
  okx : okS a0 a1 = true
  oky : okS b0 b1 = true
  onx : onB X a0 a1 = true
  ony : onB Y b0 b1 = true
theorem box2_of {X Y : List Int} {V : List (List Int)} {a0 a1 b0 b1 : Int} (h : pointsB X Y V a0 a1 b0 b1 = true) : Box2 X Y V a0 a1 b0 b1 := by
  unfold pointsB at h
  simp only [Bool.and_eq_true] at h
  obtain ⟨⟨ht, ho0, ho1⟩, hx, hy⟩ := h
  exact ⟨ht, ho0, ho1, hx, hy⟩
theorem box2_points {X Y : List Int} {V : List (List Int)} {a0 a1 b0 b1 : Int} (h : Box2 X Y V a0 a1 b0 b1) : pointsB X Y V a0 a1 b0 b1 = true := by
  unfold pointsB
  rw [h.tab, h.okx, h.oky, h.onx, h.ony]; rfl
section
variable {X Y : List Int} {V : List (List Int)} {a0 a1 b0 b1 : Int}
theorem Box2.stx (h : Box2 X Y V a0 a1 b0 b1) {x : Int} (hx : x ∈ stopsL X a0 a1) : onB X x x = true ∧ a0 ≤ x ∧ x ≤ a1 := stops_on h.onx (okS_le h.okx) hx
theorem Box2.sty (h : Box2 X Y V a0 a1 b0 b1) {y : Int} (hy : y ∈ stopsL Y b0 b1) : onB Y y y = true ∧ b0 ≤ y ∧ y ≤ b1 := stops_on h.ony (okS_le h.oky) hy
theorem good_at (t : tableB X Y V = true) {x y : Int} (hx : onB X x x = true) (hy : onB Y y y = true) : GoodP (ptAt X Y V x y) := good_pt (tb_of t) (cell_spot (tb_of t).ax hx) (cell_spot (tb_of t).ay hy)
theorem good_ref (t : tableB X Y V = true) {x y : Int} (hx : onB X x x = true) (hy : onB Y y y = true) : GoodP (ptRef X Y V x y) := good_pt (tb_of t) (part_spot (tb_of t).ax hx) (part_spot (tb_of t).ay hy)
theorem grid_mem {xs ys : List Int} {f : Int → Int → Pt} {q : Pt} (h : q ∈ gridL xs ys f) : ∃ x ∈ xs, ∃ y ∈ ys, q = f x y := by
  unfold gridL at h
  rw [List.mem_flatMap] at h
  obtain ⟨x, hx, hq⟩ := h
  rw [List.mem_map] at hq
  obtain ⟨y, hy, rfl⟩ := hq
  exact ⟨x, hx, y, hy, rfl⟩
theorem Box2.goodL (h : Box2 X Y V a0 a1 b0 b1) {q : Pt} (hq : q ∈ ptsL X Y V a0 a1 b0 b1) : GoodP q := by
  obtain ⟨x, hx, y, hy, rfl⟩ := grid_mem hq
  exact good_at h.tab (h.stx hx).1 (h.sty hy).1
theorem stops_cons (l : List Int) (lo hi : Int) : ∃ r, stopsL l lo hi = lo :: r := ⟨_, rfl⟩
theorem grid_cons (X Y : List Int) (a0 a1 b0 b1 : Int) (f : Int → Int → Pt) : ∃ r, gridL (stopsL X a0 a1) (stopsL Y b0 b1) f = f a0 b0 :: r := by
  obtain ⟨r, hr⟩ := stops_cons X a0 a1
  obtain ⟨s, hs⟩ := stops_cons Y b0 b1
  rw [hr, hs]
  exact ⟨_, rfl⟩
theorem pick_mem (f : Pt → Pt → Bool) : ∀ (l : List Pt) (a : Pt), l.foldl (fun m q => if f m q then q else m) a = a ∨ l.foldl (fun m q => if f m q then q else m) a ∈ l
  | [], a => .inl rfl
  | b :: l, a => by
    rw [List.foldl_cons]
    rcases pick_mem f l (if f a b then b else a) with h | h
    · by_cases hf : f a b = true
      · rw [if_pos hf] at h ⊢; exact .inr (by rw [h]; simp)
      · rw [if_neg hf] at h ⊢; exact .inl h
    · exact .inr (List.mem_cons_of_mem _ h)
theorem least_mem (p : Pt) (l : List Pt) : leastP (p :: l) ∈ p :: l := by
  change l.foldl (fun m q => if ltP q m then q else m) p ∈ p :: l
  rcases pick_mem (fun m q => ltP q m) l p with h | h
  · rw [h]; simp
  · exact List.mem_cons_of_mem _ h
theorem most_mem (p : Pt) (l : List Pt) : mostP (p :: l) ∈ p :: l := by
  change l.foldl (fun m q => if ltP m q then q else m) p ∈ p :: l
  rcases pick_mem (fun m q => ltP m q) l p with h | h
  · rw [h]; simp
  · exact List.mem_cons_of_mem _ h
theorem Box2.least_in (h : Box2 X Y V a0 a1 b0 b1) : leastP (ptsL X Y V a0 a1 b0 b1) ∈ ptsL X Y V a0 a1 b0 b1 := by
  obtain ⟨r, hr⟩ := grid_cons X Y a0 a1 b0 b1 (ptAt X Y V)
  unfold ptsL; rw [hr]; exact least_mem _ _
theorem Box2.most_in (h : Box2 X Y V a0 a1 b0 b1) : mostP (ptsL X Y V a0 a1 b0 b1) ∈ ptsL X Y V a0 a1 b0 b1 := by
  obtain ⟨r, hr⟩ := grid_cons X Y a0 a1 b0 b1 (ptAt X Y V)
  unfold ptsL; rw [hr]; exact most_mem _ _
theorem ext_total (h : Box2 X Y V a0 a1 b0 b1) : spans_extremes.f X Y V a0 a1 b0 b1 =
    some ((leastP (ptsL X Y V a0 a1 b0 b1)).x, (leastP (ptsL X Y V a0 a1 b0 b1)).y, (leastP (ptsL X Y V a0 a1 b0 b1)).n, (leastP (ptsL X Y V a0 a1 b0 b1)).d,
      (mostP (ptsL X Y V a0 a1 b0 b1)).x, (mostP (ptsL X Y V a0 a1 b0 b1)).y, (mostP (ptsL X Y V a0 a1 b0 b1)).n, (mostP (ptsL X Y V a0 a1 b0 b1)).d) := by
  unfold spans_extremes.f
  rw [if_pos (box2_points h)]
theorem good_fl {p : Pt} (h : GoodP p) : spans_floor.f p.n p.d = some (flP p) := by
  obtain ⟨h1, h2, h3, h4⟩ := h
  exact floor_total _ _ h1 (by omega) (by omega)
theorem good_up {p : Pt} (h : GoodP p) : spans_value_up.f p.n p.d = some (ceP p) := by
  obtain ⟨h1, h2, h3, h4⟩ := h
  exact up_total _ _ h1 (by omega) (by omega)
theorem good_rce {p : Pt} (h : GoodP p) : swashplateref01_ceil.f p.n p.d = some (ceP p) := by
  obtain ⟨h1, h2, h3, h4⟩ := h
  exact rceil_total _ _ h1 (by omega) (by omega) (by omega)
end
theorem value_total {X Y : List Int} {V : List (List Int)} (ht : tableB X Y V = true) {x y : Int} (hx : onB X x x = true) (hy : onB Y y y = true) : swashplateref01_Value.f X Y V x y = some ((ptRef X Y V x y).n, (ptRef X Y V x y).d) := by
  unfold swashplateref01_Value.f
  rw [ht, hx, hy]; rfl
end Go.Proofs.Yteodlmgmmpkpoaa.PS
end
section
namespace Go.Proofs.Yteodlmgmmpkpoaa.PS
open Go.RowKit Go.Proofs.YteodlmgmmpkpoaaW.PrintWords Go.Proofs.YteodlmgmmpkpoaaW.PrintLast Go.Proofs.YteodlmgmmpkpoaaW.PrintMore
attribute [local go_sem] max2_int min2_int max_two min_two max_three min_three max_four min_four   -- for this text's walks alone
set_option linter.unusedVariables false
set_option linter.unusedSimpArgs false
mutual
def swashplateref01_Below.l0 : Nat → Int → List Int → List Int → Int → List Int → List Int → List (List Int) → Option (Int × Int × Bool × Int)
 | 0, _, _, _, _, _, _, _ => none
 | k + 1, x3, x13, x14, x15, x534000, x534001, x534002 => if x15 < (x13.length : Int) then (swashplateref01_Below.l1 k x3 x13 x14 x15 0 x534000 x534001 x534002) else (some (0, 0, true, 0))
def swashplateref01_Below.l1 : Nat → Int → List Int → List Int → Int → Int → List Int → List Int → List (List Int) → Option (Int × Int × Bool × Int)
 | 0, _, _, _, _, _, _, _, _ => none
 | k + 1, x3, x13, x14, x15, x16, x534000, x534001, x534002 => if x16 < (x14.length : Int) then (if 0 ≤ x15 then (if x15 < (x13.length : Int) then (if 0 ≤ x16 then ((swashplateref01_Value.f x534000 x534001 x534002 (rd x13 x15) (rd x14 x16)).bind fun bt545 => ((swashplateref01_ceil.f bt545.1 bt545.2).bind fun t547 => (if t547 > x3 then (some (rd x13 x15, rd x14 x16, false, 0)) else (swashplateref01_Below.l1 k x3 x13 x14 x15 (wrap64 (x16 + 1)) x534000 x534001 x534002)))) else (none)) else (none)) else (none)) else (swashplateref01_Below.l0 k x3 x13 x14 (wrap64 (x15 + 1)) x534000 x534001 x534002)
end
def swashplateref01_Below.f (k : Nat) (l0_0 : List Int) (l0_1 : List Int) (l0_2 : List (List Int)) (a1_0 : Int) (a1_1 : Int) (a2_0 : Int) (a2_1 : Int) (a3 : Int) : Option (Int × Int × Bool × Int) := (swashplateref01_CheckBound.f k l0_0 l0_1 l0_2 a1_0 a1_1 a2_0 a2_1).bind fun t536 => (if t536 = 0 then ((swashplateref01_corners.f k l0_0 a1_0 a1_1).bind fun t537 => ((swashplateref01_corners.f k l0_1 a2_0 a2_1).bind fun t540 => (swashplateref01_Below.l0 k a3 t537 t540 0 l0_0 l0_1 l0_2))) else (some (0, 0, false, t536)))
def swashplateref01_Below.T4 : Bool × List (List Nat × List Nat) := (true, [([], []), ([0], [0]), ([], []), ([1, 2], [1, 2]), ([], []), ([4], [4]), ([], []), ([5, 6, 3], [5, 6]), ([3, 7, 0, 1, 2, 3], [3]), ([7, 8, 0, 1, 2, 3, 4, 5, 6, 7, 8], [7])])
def swashplateref01_Below.B4 : List Nat := [0, 1, 0, 7, 0, 16, 0, 127, 255, 511]
theorem swashplateref01_Below.tab4 : rtab .any (opsOf Try.f47 4) = swashplateref01_Below.T4 := by kernel_rfl
theorem swashplateref01_Below.bits4 : waitsOk swashplateref01_Below.T4.2 swashplateref01_Below.B4 = true := by kernel_rfl
def swashplateref01_Below.T11 : Bool × List (List Nat × List Nat) := (true, [([], []), ([], []), ([], []), ([1, 2], [1, 2]), ([3], [3]), ([], []), ([], []), ([5, 6], [5, 6]), ([7], [7]), ([0, 4, 8], [0, 4, 8]), ([9], [9]), ([10], [10]), ([10], [10]), ([11, 9, 0, 1, 2, 3, 4, 5, 6, 7, 8, 9, 10, 11], [11]), ([12, 13, 0, 1, 2, 3, 4, 5, 6, 7, 8, 9, 10, 11, 12, 13], [12])])
def swashplateref01_Below.B11 : List Nat := [0, 0, 0, 6, 14, 0, 0, 96, 224, 511, 1023, 2047, 2047, 4095, 16383]
theorem swashplateref01_Below.tab11 : rtab .any (opsOf Try.f47 11) = swashplateref01_Below.T11 := by kernel_rfl
theorem swashplateref01_Below.bits11 : waitsOk swashplateref01_Below.T11.2 swashplateref01_Below.B11 = true := by kernel_rfl
def swashplateref01_Below.T13 : Bool × List (List Nat × List Nat) := (true, [([], []), ([], []), ([0, 1], [0, 1]), ([2], [2]), ([], []), ([], []), ([4, 5], [4, 5]), ([6], [6]), ([3, 0, 1, 2, 3], [3]), ([7, 8, 0, 1, 2, 3, 4, 5, 6, 7, 8], [7]), ([9, 0, 1, 2, 3, 4, 5, 6, 7, 8, 9], []), ([10, 0, 1, 2, 3, 4, 5, 6, 7, 8, 9, 10], [])])
def swashplateref01_Below.B13 : List Nat := [0, 0, 3, 7, 0, 0, 48, 112, 15, 511, 1023, 2047]
theorem swashplateref01_Below.tab13 : rtab .any (opsOf Try.f47 13) = swashplateref01_Below.T13 := by kernel_rfl
theorem swashplateref01_Below.bits13 : waitsOk swashplateref01_Below.T13.2 swashplateref01_Below.B13 = true := by kernel_rfl
set_option maxHeartbeats 8000000 in
set_option maxRecDepth 100000 in
theorem swashplateref01_Below.calls (k : Nat) (A0_0 : Option Addr) (c0_0 : Nat) (l0_0 : List Int) (A0_1 : Option Addr) (c0_1 : Nat) (l0_1 : List Int) (A0_2 : Option Addr) (c0_2 : Nat) (l0_2 : List (List Int)) (a1_0 : Int) (a1_1 : Int) (a2_0 : Int) (a2_1 : Int) (a3 : Int) (r1 : Int) (r2 : Int) (r3 : Bool) (r4 : Int) (w : World) (hr0_0 : Kd.C (Kd.int .i64) w A0_0 l0_0.length l0_0) (hc0_0 : l0_0.length ≤ c0_0) (hr0_1 : Kd.C (Kd.int .i64) w A0_1 l0_1.length l0_1) (hc0_1 : l0_1.length ≤ c0_1) (hr0_2 : Kd.C (Kd.slice 3 (Kd.int .i64)) w A0_2 l0_2.length l0_2) (hc0_2 : l0_2.length ≤ c0_2) (h : swashplateref01_Below.f k l0_0 l0_1 l0_2 a1_0 a1_1 a2_0 a2_1 a3 = some (r1, r2, r3, r4)) :
  Calls Try.prog 47 #[.agg #[.slice A0_0 l0_0.length c0_0, .slice A0_1 l0_1.length c0_1, .slice A0_2 l0_2.length c0_2], .agg #[.int .i64 a1_0, .int .i64 a1_1], .agg #[.int .i64 a2_0, .int .i64 a2_1], .int .i64 a3] w fun e w' => e = .returned (.tuple #[.int .i64 r1, .int .i64 r2, .bool r3, .int .i64 r4]) ∧ Below w.heap.size w w' := by
 have hu25 := Try.underlying25
 have hu27 := Try.underlying27
 have HR0_0 := Aside0.mk hr0_0
 have HC0_0 := Aside0.mk hc0_0
 clear hr0_0 hc0_0
 have HR0_1 := Aside0.mk hr0_1
 have HC0_1 := Aside0.mk hc0_1
 clear hr0_1 hc0_1
 have HR0_2 := Aside0.mk hr0_2
 have HC0_2 := Aside0.mk hc0_2
 clear hr0_2 hc0_2
 have HB := Aside0.mk (Below.refl w.heap.size w)
 have H : ((swashplateref01_CheckBound.f k l0_0 l0_1 l0_2 a1_0 a1_1 a2_0 a2_1).bind fun t536 => (if t536 = 0 then ((swashplateref01_corners.f k l0_0 a1_0 a1_1).bind fun t537 => ((swashplateref01_corners.f k l0_1 a2_0 a2_1).bind fun t540 => (swashplateref01_Below.l0 k a3 t537 t540 0 l0_0 l0_1 l0_2))) else (some (0, 0, false, t536)))) = some (r1, r2, r3, r4) := h
 clear h
 replace H := Option.bind_eq_some_iff.mp H
 obtain ⟨t536, A50, H⟩ := H
 replace H : (if t536 = 0 then ((swashplateref01_corners.f k l0_0 a1_0 a1_1).bind fun t537 => ((swashplateref01_corners.f k l0_1 a2_0 a2_1).bind fun t540 => (swashplateref01_Below.l0 k a3 t537 t540 0 l0_0 l0_1 l0_2))) else (some (0, 0, false, t536))) = some (r1, r2, r3, r4) := H
 have A5 := Aside0.mk A50
 clear A50
 by_cases c6 : t536 = 0
 ·
  rw [if_pos c6] at H
  have c6b0 : (t536 == 0) = true := beq_iff_eq.mpr c6
  have c6b1 : (t536 != 0) = false := bne_eq_false_iff_eq.mpr c6
  clear c6
  replace H := Option.bind_eq_some_iff.mp H
  obtain ⟨t537, A70, H⟩ := H
  replace H : ((swashplateref01_corners.f k l0_1 a2_0 a2_1).bind fun t540 => (swashplateref01_Below.l0 k a3 t537 t540 0 l0_0 l0_1 l0_2)) = some (r1, r2, r3, r4) := H
  have A7 := Aside0.mk A70
  clear A70
  replace H := Option.bind_eq_some_iff.mp H
  obtain ⟨t540, A80, H⟩ := H
  replace H : (swashplateref01_Below.l0 k a3 t537 t540 0 l0_0 l0_1 l0_2) = some (r1, r2, r3, r4) := H
  have A8 := Aside0.mk A80
  clear A80
  have H' := Aside0.mk H
  clear H
  go_enter Try.func47, Try.ntmps47
  try go_wp2_with (first | ((with_reducible refine gate_dst (N := 4) rfl ?_); refine box_event ?hg (N := 4) ?hd (cs := #[.slice A0_0 l0_0.length c0_0, .slice A0_1 l0_1.length c0_1, .slice A0_2 l0_2.length c0_2]) (t := 25) ?hr ?_; (case hd => rfl); (case hg => rfl); (case hr => first | (go_simp; done) | (go_simp; rfl)); intro gb533 hg w9 hbox hb; have n0_ := Aside0.mk (below_step (bl_ HB.out) hb); have n1_ := Aside0.mk (hbox); have n2_ := Aside0.mk (szl_ hg HB.out); have n3_ := Aside0.mk (szl_ hg HB.out); clear HB; have HB := n0_; have BK533 := n1_; have GW533 := n2_; have GE533 := n3_; clear n0_ n1_ n2_ n3_ hb hbox hg) | ((with_reducible refine gate_dst (N := 5) rfl ?_); refine box_event ?hg (N := 5) ?hd (cs := #[.int .i64 a1_0, .int .i64 a1_1]) (t := 27) ?hr ?_; (case hd => rfl); (case hg => rfl); (case hr => first | (go_simp; done) | (go_simp; rfl)); intro gb534 hg w10 hbox hb; have n0_ := Aside0.mk (blk_below (bk_ BK533.out) hb); have n1_ := Aside0.mk (below_step (bl_ HB.out) hb); have n2_ := Aside0.mk (hbox); have n3_ := Aside0.mk (szl_ hg HB.out); have n4_ := Aside0.mk (szl_ hg HB.out); have n5_ := Aside0.mk (nel_ hg BK533.out); have n6_ := Aside0.mk (ner_ hg BK533.out); clear BK533 HB; have BK533 := n0_; have HB := n1_; have BK534 := n2_; have GW534 := n3_; have GE534 := n4_; have NB533_534 := n5_; have NB534_533 := n6_; clear n0_ n1_ n2_ n3_ n4_ n5_ n6_ hb hbox hg) | ((with_reducible refine gate_dst (N := 6) rfl ?_); refine box_event ?hg (N := 6) ?hd (cs := #[.int .i64 a2_0, .int .i64 a2_1]) (t := 27) ?hr ?_; (case hd => rfl); (case hg => rfl); (case hr => first | (go_simp; done) | (go_simp; rfl)); intro gb535 hg w11 hbox hb; have n0_ := Aside0.mk (blk_below (bk_ BK533.out) hb); have n1_ := Aside0.mk (blk_below (bk_ BK534.out) hb); have n2_ := Aside0.mk (below_step (bl_ HB.out) hb); have n3_ := Aside0.mk (hbox); have n4_ := Aside0.mk (szl_ hg HB.out); have n5_ := Aside0.mk (szl_ hg HB.out); have n6_ := Aside0.mk (nel_ hg BK533.out); have n7_ := Aside0.mk (ner_ hg BK533.out); have n8_ := Aside0.mk (nel_ hg BK534.out); have n9_ := Aside0.mk (ner_ hg BK534.out); clear BK533 BK534 HB; have BK533 := n0_; have BK534 := n1_; have HB := n2_; have BK535 := n3_; have GW535 := n4_; have GE535 := n5_; have NB533_535 := n6_; have NB535_533 := n7_; have NB534_535 := n8_; have NB535_534 := n9_; clear n0_ n1_ n2_ n3_ n4_ n5_ n6_ n7_ n8_ n9_ hb hbox hg; have hnb12 := NB533_534.out; have hnc12 := NB534_533.out; have hnb13 := NB533_535.out; have hnc13 := NB535_533.out; have hcz14_0 : w11.cell? ⟨gb533, 0, none⟩ = some (.slice A0_0 l0_0.length c0_0) := (blk_cell BK533.out 0).trans rfl; have hcz14_1 : w11.cell? ⟨gb533, 1, none⟩ = some (.slice A0_1 l0_1.length c0_1) := (blk_cell BK533.out 1).trans rfl; have hcz14_2 : w11.cell? ⟨gb533, 2, none⟩ = some (.slice A0_2 l0_2.length c0_2) := (blk_cell BK533.out 2).trans rfl; have hfz14_0 := blk_frozen BK533.out 0; have hfz14_1 := blk_frozen BK533.out 1; have hfz14_2 := blk_frozen BK533.out 2; have hnb15 := NB534_535.out; have hnc15 := NB535_534.out; have hcz16_0 : w11.cell? ⟨gb534, 0, none⟩ = some (.int .i64 a1_0) := (blk_cell BK534.out 0).trans rfl; have hcz16_1 : w11.cell? ⟨gb534, 1, none⟩ = some (.int .i64 a1_1) := (blk_cell BK534.out 1).trans rfl; have hfz16_0 := blk_frozen BK534.out 0; have hfz16_1 := blk_frozen BK534.out 1; have hcz17_0 : w11.cell? ⟨gb535, 0, none⟩ = some (.int .i64 a2_0) := (blk_cell BK535.out 0).trans rfl; have hcz17_1 : w11.cell? ⟨gb535, 1, none⟩ = some (.int .i64 a2_1) := (blk_cell BK535.out 1).trans rfl; have hfz17_0 := blk_frozen BK535.out 0; have hfz17_1 := blk_frozen BK535.out 1) | ((with_reducible refine gate_callee (f := 52) rfl ?_); refine goesL_ (some 22) rfl rfl Try.func52 (by kernel_rfl) rfl #[.agg #[.slice A0_0 l0_0.length c0_0, .slice A0_1 l0_1.length c0_1, .slice A0_2 l0_2.length c0_2], .agg #[.int .i64 a1_0, .int .i64 a1_1], .agg #[.int .i64 a2_0, .int .i64 a2_1]] rfl (by (try simp only [List.map_toArray, List.map_cons, List.map_nil]); first | done | rfl | (simp only [List.length_drop, List.length_take]; rfl)) ?_; (with_reducible refine (swashplateref01_CheckBound.calls k _ _ l0_0 _ _ l0_1 _ _ l0_2 a1_0 a1_1 a2_0 a2_1 t536 _ ?side1 ?side2 ?side3 ?side4 ?side5 ?side6 A5.out).mono ?_); (case side1 => exact cr_ (Kd.C_below HR0_0.out HB.out)); (case side2 => exact HC0_0.out); (case side3 => exact cr_ (Kd.C_below HR0_1.out HB.out)); (case side4 => exact HC0_1.out); (case side5 => exact cr_ (Kd.C_below HR0_2.out HB.out)); (case side6 => exact HC0_2.out); rintro e w18 ⟨rfl, hb⟩; refine ⟨_, rfl, ?_⟩; have n0_ := Aside0.mk (blk_below (bk_ BK533.out) hb); have n1_ := Aside0.mk (blk_below (bk_ BK534.out) hb); have n2_ := Aside0.mk (blk_below (bk_ BK535.out) hb); have n3_ := Aside0.mk (below_step (bl_ HB.out) hb); clear BK533 BK534 BK535 HB; have BK533 := n0_; have BK534 := n1_; have BK535 := n2_; have HB := n3_; clear n0_ n1_ n2_ n3_; (try clear hb); (try clear hb2); (try clear hk); (try clear hi)))
  have n0_ := Aside0.mk (blk_drew BK533.out)
  have n1_ := Aside0.mk (blk_drew BK534.out)
  have n2_ := Aside0.mk (blk_drew BK535.out)
  have n3_ := Aside0.mk (below_drew1 HB.out)
  clear BK533 BK534 BK535 HB
  have BK533 := n0_
  have BK534 := n1_
  have BK535 := n2_
  have HB := n3_
  clear n0_ n1_ n2_ n3_
  refine start_ (n := 10) (S := fun w' => w'.cell? ⟨gb533, 0, none⟩ = some (.slice A0_0 l0_0.length c0_0) ∧ w'.cell? ⟨gb533, 1, none⟩ = some (.slice A0_1 l0_1.length c0_1) ∧ w'.cell? ⟨gb533, 2, none⟩ = some (.slice A0_2 l0_2.length c0_2) ∧ w'.cell? ⟨gb534, 0, none⟩ = some (.int .i64 a1_0) ∧ w'.cell? ⟨gb534, 1, none⟩ = some (.int .i64 a1_1) ∧ w'.cell? ⟨gb535, 0, none⟩ = some (.int .i64 a2_0) ∧ w'.cell? ⟨gb535, 1, none⟩ = some (.int .i64 a2_1)) (ds := []) #[false, false, false, false, false, false, false, false, false, false] (by kernel_rfl) rfl rfl ⟨(blk_cell BK533.out 0).trans rfl, (blk_cell BK533.out 1).trans rfl, (blk_cell BK533.out 2).trans rfl, (blk_cell BK534.out 0).trans rfl, (blk_cell BK534.out 1).trans rfl, (blk_cell BK535.out 0).trans rfl, (blk_cell BK535.out 1).trans rfl⟩ (fun hHeld => ?_); refine with_tabW swashplateref01_Below.tab4 swashplateref01_Below.bits4 (fun HT_ HW_ => ?_)
  generalize w18.drew = w19 at BK533 BK534 BK535 HB hHeld ⊢
  refine pure_ (i := 0) (N := some 26) (v := ?_) (a' := ?_) #[true, false, false, false, false, false, false, false, false, false] rfl rfl (any_of HT_.out (by kernel_rfl)) (fun _ _ _ h => h) (Or.inl ⟨by rfl, ?_⟩) ?_ ?_
  rotate_left
  ·
   intro w'
   go_simp
   with_reducible rfl
  rotate_left
  ·
   simp only [Act.put, List.setIfInBounds_toArray, List.set_cons_zero, List.set_cons_succ, i64_w, i32_w]
   rfl
  refine pure_ (i := 4) (N := some 30) (v := ?_) (a' := ?_) #[true, false, false, false, true, false, false, false, false, false] rfl rfl (any_of HT_.out (by kernel_rfl)) (fun _ _ _ h => h) (Or.inl ⟨by rfl, ?_⟩) ?_ ?_
  rotate_left
  ·
   intro w'
   go_simp
   with_reducible rfl
  rotate_left
  ·
   simp only [Act.put, List.setIfInBounds_toArray, List.set_cons_zero, List.set_cons_succ, i64_w, i32_w]
   rfl
  refine take_ (i := 1) (N := some 27) (v := ?_) (a' := ?_) #[true, true, false, false, true, false, false, false, false, false] rfl rfl (take_ofW HT_.out HW_.out (by kernel_rfl)) (fun _ _ _ h => h) (Or.inl ⟨by rfl, ?_⟩) hHeld ?_ ?_
  rotate_left
  ·
   rintro w' ⟨s0, s1, s2, s3, s4, s5, s6⟩
   go_simp
   with_reducible rfl
  rotate_left
  ·
   simp only [Act.put, List.setIfInBounds_toArray, List.set_cons_zero, List.set_cons_succ, i64_w, i32_w]
   rfl
  refine take_ (i := 2) (N := some 28) (v := ?_) (a' := ?_) #[true, true, true, false, true, false, false, false, false, false] rfl rfl (take_ofW HT_.out HW_.out (by kernel_rfl)) (fun _ _ _ h => h) (Or.inl ⟨by rfl, ?_⟩) hHeld ?_ ?_
  rotate_left
  ·
   rintro w' ⟨s0, s1, s2, s3, s4, s5, s6⟩
   go_simp
   with_reducible rfl
  rotate_left
  ·
   simp only [Act.put, List.setIfInBounds_toArray, List.set_cons_zero, List.set_cons_succ, i64_w, i32_w]
   rfl
  refine take_ (i := 5) (N := some 31) (v := ?_) (a' := ?_) #[true, true, true, false, true, true, false, false, false, false] rfl rfl (take_ofW HT_.out HW_.out (by kernel_rfl)) (fun _ _ _ h => h) (Or.inl ⟨by rfl, ?_⟩) hHeld ?_ ?_
  rotate_left
  ·
   rintro w' ⟨s0, s1, s2, s3, s4, s5, s6⟩
   go_simp
   with_reducible rfl
  rotate_left
  ·
   simp only [Act.put, List.setIfInBounds_toArray, List.set_cons_zero, List.set_cons_succ, i64_w, i32_w]
   rfl
  refine take_ (i := 6) (N := some 32) (v := ?_) (a' := ?_) #[true, true, true, false, true, true, true, false, false, false] rfl rfl (take_ofW HT_.out HW_.out (by kernel_rfl)) (fun _ _ _ h => h) (Or.inl ⟨by rfl, ?_⟩) hHeld ?_ ?_
  rotate_left
  ·
   rintro w' ⟨s0, s1, s2, s3, s4, s5, s6⟩
   go_simp
   with_reducible rfl
  rotate_left
  ·
   simp only [Act.put, List.setIfInBounds_toArray, List.set_cons_zero, List.set_cons_succ, i64_w, i32_w]
   rfl
  refine one_ (i := 3) (N := some 29) #[true, true, true, true, true, true, true, false, false, false] rfl rfl (one_of HT_.out (by kernel_rfl)) (by decide) (fun K hK => ?_)
  refine goes_ Try.func101 (by kernel_rfl) rfl #[.slice A0_0 l0_0.length c0_0, .agg #[.int .i64 a1_0, .int .i64 a1_1]] (by rfl) rfl rfl (by (try simp only [List.map_toArray, List.map_cons, List.map_nil]); first | done | rfl | (simp only [List.length_drop, List.length_take]; rfl)) ?_
  with_reducible refine (swashplateref01_corners.calls k _ _ l0_0 a1_0 a1_1 t537 _ ?side1 ?side2 A7.out).mono ?_
  (case side1 => exact cr_ (Kd.C_below HR0_0.out HB.out))
  (case side2 => exact HC0_0.out)
  rintro e w20 ⟨v538, rfl, ho0, hb⟩
  refine ⟨_, rfl, ?_⟩
  have n0_ := Aside0.mk (Kd.R_lower ho0 (below_size (bl_ HB.out)))
  have n1_ := Aside0.mk (blk_below (bk_ BK533.out) hb)
  have n2_ := Aside0.mk (blk_below (bk_ BK534.out) hb)
  have n3_ := Aside0.mk (blk_below (bk_ BK535.out) hb)
  have n4_ := Aside0.mk (below_step (bl_ HB.out) hb)
  clear BK533 BK534 BK535 HB
  have HO539 := n0_
  have BK533 := n1_
  have BK534 := n2_
  have BK535 := n3_
  have HB := n4_
  clear n0_ n1_ n2_ n3_ n4_
  (try clear hb)
  (try clear hb2)
  (try clear hk)
  (try clear hi)
  (try clear ho0)
  refine hK.out _ _ ⟨(blk_cell BK533.out 0).trans rfl, (blk_cell BK533.out 1).trans rfl, (blk_cell BK533.out 2).trans rfl, (blk_cell BK534.out 0).trans rfl, (blk_cell BK534.out 1).trans rfl, (blk_cell BK535.out 0).trans rfl, (blk_cell BK535.out 1).trans rfl⟩ (fun hHeld => ?_)
  clear hK K
  refine norm_ (a' := ?_) ?_ ?_
  rotate_left
  ·
   show Act.put _ (some 29) _ = _
   simp only [Act.put, List.setIfInBounds_toArray, List.set_cons_zero, List.set_cons_succ, i64_w, i32_w]
   rfl
  refine one_ (i := 7) (N := some 33) #[true, true, true, true, true, true, true, true, false, false] rfl rfl (one_of HT_.out (by kernel_rfl)) (by decide) (fun K hK => ?_)
  refine goes_ Try.func101 (by kernel_rfl) rfl #[.slice A0_1 l0_1.length c0_1, .agg #[.int .i64 a2_0, .int .i64 a2_1]] (by rfl) rfl rfl (by (try simp only [List.map_toArray, List.map_cons, List.map_nil]); first | done | rfl | (simp only [List.length_drop, List.length_take]; rfl)) ?_
  with_reducible refine (swashplateref01_corners.calls k _ _ l0_1 a2_0 a2_1 t540 _ ?side1 ?side2 A8.out).mono ?_
  (case side1 => exact cr_ (Kd.C_below HR0_1.out HB.out))
  (case side2 => exact HC0_1.out)
  rintro e w21 ⟨v541, rfl, ho0, hb⟩
  refine ⟨_, rfl, ?_⟩
  have n0_ := Aside0.mk (Kd.R_elder' (by (with_reducible repeat (first | apply Kd.R_alloc | apply Kd.R_drewN | apply Kd.R_drew)); exact HO539.out) (Kd.R_base ho0) hb)
  have n1_ := Aside0.mk (Kd.R_lower (Kd.R_new' ho0 (Kd.R_lt (by (with_reducible repeat (first | apply Kd.R_alloc | apply Kd.R_drewN | apply Kd.R_drew)); exact HO539.out))) (below_size (bl_ HB.out)))
  have n2_ := Aside0.mk (blk_below (bk_ BK533.out) hb)
  have n3_ := Aside0.mk (blk_below (bk_ BK534.out) hb)
  have n4_ := Aside0.mk (blk_below (bk_ BK535.out) hb)
  have n5_ := Aside0.mk (below_step (bl_ HB.out) hb)
  clear HO539 BK533 BK534 BK535 HB
  have HO539 := n0_
  have HO542 := n1_
  have BK533 := n2_
  have BK534 := n3_
  have BK535 := n4_
  have HB := n5_
  clear n0_ n1_ n2_ n3_ n4_ n5_
  (try clear hb)
  (try clear hb2)
  (try clear hk)
  (try clear hi)
  (try clear ho0)
  refine hK.out _ _ ⟨(blk_cell BK533.out 0).trans rfl, (blk_cell BK533.out 1).trans rfl, (blk_cell BK533.out 2).trans rfl, (blk_cell BK534.out 0).trans rfl, (blk_cell BK534.out 1).trans rfl, (blk_cell BK535.out 0).trans rfl, (blk_cell BK535.out 1).trans rfl⟩ (fun hHeld => ?_)
  clear hK K
  refine norm_ (a' := ?_) ?_ ?_
  rotate_left
  ·
   show Act.put _ (some 33) _ = _
   simp only [Act.put, List.setIfInBounds_toArray, List.set_cons_zero, List.set_cons_succ, i64_w, i32_w]
   rfl
  refine pure_ (i := 8) (N := some 13) (v := ?_) (a' := ?_) #[true, true, true, true, true, true, true, true, true, false] rfl rfl (any_of HT_.out (by kernel_rfl)) (fun _ _ _ h => h) (Or.inl ⟨by rfl, ?_⟩) ?_ ?_
  rotate_left
  ·
   intro w'
   go_simp
   with_reducible rfl
  rotate_left
  ·
   simp only [Act.put, List.setIfInBounds_toArray, List.set_cons_zero, List.set_cons_succ, i64_w, i32_w]
   rfl
  refine pure_ (i := 9) (N := some 14) (v := ?_) (a' := ?_) #[true, true, true, true, true, true, true, true, true, true] rfl rfl (any_of HT_.out (by kernel_rfl)) (fun _ _ _ h => h) (Or.inl ⟨by rfl, ?_⟩) ?_ ?_
  rotate_left
  ·
   intro w'
   go_simp
   with_reducible rfl
  rotate_left
  ·
   simp only [Act.put, List.setIfInBounds_toArray, List.set_cons_zero, List.set_cons_succ, i64_w, i32_w]
   rfl
  refine done_ (done_of HT_.out (by kernel_rfl)) ?_
  try go_wp2
  go_loopg [15] k (fun kq v15 w' => ∃ (x15_1 : Int), v15 = .int .i64 x15_1 ∧ Aside0 (swashplateref01_Below.l0 kq a3 t537 t540 x15_1 l0_0 l0_1 l0_2 = some (r1, r2, r3, r4)) ∧ Aside0 (kq ≤ k) ∧ Aside0 (Kd.R (Kd.int .i64) 3 w' w.heap.size (fun k_ => some k_ ≠ (v541 : Value).ownBlock) v538 t537) ∧ Aside0 (Kd.R (Kd.int .i64) 3 w' w.heap.size (fun k_ => some k_ ≠ (v538 : Value).ownBlock) v541 t540) ∧ Aside0 (w'.heap[gb533]? = some (.cells #[(.slice A0_0 l0_0.length c0_0), (.slice A0_1 l0_1.length c0_1), (.slice A0_2 l0_2.length c0_2)] 25 (0, 0))) ∧ Aside0 (w'.heap[gb534]? = some (.cells #[.int .i64 a1_0, .int .i64 a1_1] 27 (0, 0))) ∧ Aside0 (w'.heap[gb535]? = some (.cells #[.int .i64 a2_0, .int .i64 a2_1] 27 (0, 0))) ∧ Aside0 (Below w.heap.size w w'))
  case atStart => exact ⟨(0), (by first | rfl | (simp; done) | (simp [*]; done)), H', ⟨Nat.le_refl _⟩, ⟨by (with_reducible repeat (first | apply Kd.R_alloc | apply Kd.R_drewN | apply Kd.R_drew)); exact Kd.R_mono HO539.out (fun _ hk => hk.2)⟩, ⟨by (with_reducible repeat (first | apply Kd.R_alloc | apply Kd.R_drewN | apply Kd.R_drew)); exact Kd.R_mono HO542.out (fun _ hk => hk.2)⟩, ⟨bk_ BK533.out⟩, ⟨bk_ BK534.out⟩, ⟨bk_ BK535.out⟩, ⟨bl_ HB.out⟩⟩
  case round =>
   clear H'
   try clear c1
   try clear p2
   try clear c4
   try clear c5
   try clear c6
   try clear c6b0
   try clear c6b1
   try clear c10
   try clear c12
   try clear c13
   try clear c15
   try clear hcz14_0
   try clear hcz14_1
   try clear hcz14_2
   try clear hcz16_0
   try clear hcz16_1
   try clear hcz17_0
   try clear hcz17_1
   try clear hfz14_0
   try clear hfz14_1
   try clear hfz14_2
   try clear hfz16_0
   try clear hfz16_1
   try clear hfz17_0
   try clear hfz17_1
   obtain ⟨x15_1, rfl, HA, HK1, HO_13, HO_14, BK533, BK534, BK535, HB⟩ := hrel
   cases gk with
   | zero => exact absurd HA.out (by simp [swashplateref01_Below.l0])
   | succ k1 =>
    have H := HA.out
    clear HA
    simp only [swashplateref01_Below.l0] at H
    by_cases c22 : x15_1 < (t537.length : Int)
    ·
     rw [if_pos c22] at H
     have c22b0 : decide (x15_1 < (t537.length : Int)) = true := decide_eq_true c22
     clear c22
     have H' := Aside0.mk H
     clear H
     obtain ⟨Ao23, co23, eo23⟩ := Kd.R_slice HO_13.out
     subst eo23
     go_wp2
     go_loopg [16] k1 (fun kq v16 w' => ∃ (x16_2 : Int), v16 = .int .i64 x16_2 ∧ Aside0 (swashplateref01_Below.l1 kq a3 t537 t540 x15_1 x16_2 l0_0 l0_1 l0_2 = some (r1, r2, r3, r4)) ∧ Aside0 (kq ≤ k1) ∧ Aside0 (Kd.R (Kd.int .i64) 3 w' w.heap.size (fun k_ => some k_ ≠ (v541 : Value).ownBlock) (.slice Ao23 t537.length co23) t537) ∧ Aside0 (Kd.R (Kd.int .i64) 3 w' w.heap.size (fun k_ => some k_ ≠ ((.slice Ao23 t537.length co23) : Value).ownBlock) v541 t540) ∧ Aside0 (w'.heap[gb533]? = some (.cells #[(.slice A0_0 l0_0.length c0_0), (.slice A0_1 l0_1.length c0_1), (.slice A0_2 l0_2.length c0_2)] 25 (0, 0))) ∧ Aside0 (w'.heap[gb534]? = some (.cells #[.int .i64 a1_0, .int .i64 a1_1] 27 (0, 0))) ∧ Aside0 (w'.heap[gb535]? = some (.cells #[.int .i64 a2_0, .int .i64 a2_1] 27 (0, 0))) ∧ Aside0 (Below w.heap.size w w'))
     case atStart => exact ⟨(0), (by first | rfl | (simp; done) | (simp [*]; done)), H', ⟨Nat.le_refl _⟩, ⟨by (with_reducible repeat (first | apply Kd.R_alloc | apply Kd.R_drewN | apply Kd.R_drew)); exact HO_13.out⟩, ⟨by (with_reducible repeat (first | apply Kd.R_alloc | apply Kd.R_drewN | apply Kd.R_drew)); exact HO_14.out⟩, ⟨bk_ BK533.out⟩, ⟨bk_ BK534.out⟩, ⟨bk_ BK535.out⟩, ⟨bl_ HB.out⟩⟩
     case round =>
      clear H'
      try clear c1
      try clear c2
      try clear p2
      try clear c4
      try clear c5
      try clear c6
      try clear c6b0
      try clear c6b1
      try clear c10
      try clear c12
      try clear c13
      try clear c15
      try clear c22
      try clear c22b0
      try clear hcz14_0
      try clear hcz14_1
      try clear hcz14_2
      try clear hcz16_0
      try clear hcz16_1
      try clear hcz17_0
      try clear hcz17_1
      try clear hfz14_0
      try clear hfz14_1
      try clear hfz14_2
      try clear hfz16_0
      try clear hfz16_1
      try clear hfz17_0
      try clear hfz17_1
      try clear p2
      obtain ⟨x16_2, rfl, HA, HK2, HO_13, HO_14, BK533, BK534, BK535, HB⟩ := hrel
      cases gk with
      | zero => exact absurd HA.out (by simp [swashplateref01_Below.l1])
      | succ k2 =>
       have H := HA.out
       clear HA
       simp only [swashplateref01_Below.l1] at H
       by_cases c24 : x16_2 < (t540.length : Int)
       ·
        rw [if_pos c24] at H
        have c24b0 : decide (x16_2 < (t540.length : Int)) = true := decide_eq_true c24
        clear c24
        by_cases c25 : 0 ≤ x15_1
        ·
         rw [if_pos c25] at H
         have c25b0 : decide (0 ≤ x15_1) = true := decide_eq_true c25
         clear c25
         by_cases c26 : x15_1 < (t537.length : Int)
         ·
          rw [if_pos c26] at H
          have c26b0 : decide (x15_1 < (t537.length : Int)) = true := decide_eq_true c26
          clear c26
          by_cases c27 : 0 ≤ x16_2
          ·
           rw [if_pos c27] at H
           have c27b0 : decide (0 ≤ x16_2) = true := decide_eq_true c27
           clear c27
           replace H := Option.bind_eq_some_iff.mp H
           obtain ⟨⟨t545, t546⟩, A280, H⟩ := H
           replace H : ((swashplateref01_ceil.f t545 t546).bind fun t547 => (if t547 > a3 then (some (rd t537 x15_1, rd t540 x16_2, false, 0)) else (swashplateref01_Below.l1 k2 a3 t537 t540 x15_1 (wrap64 (x16_2 + 1)) l0_0 l0_1 l0_2))) = some (r1, r2, r3, r4) := H
           have A28 := Aside0.mk A280
           clear A280
           replace H := Option.bind_eq_some_iff.mp H
           obtain ⟨t547, A290, H⟩ := H
           replace H : (if t547 > a3 then (some (rd t537 x15_1, rd t540 x16_2, false, 0)) else (swashplateref01_Below.l1 k2 a3 t537 t540 x15_1 (wrap64 (x16_2 + 1)) l0_0 l0_1 l0_2)) = some (r1, r2, r3, r4) := H
           have A29 := Aside0.mk A290
           clear A290
           by_cases c30 : t547 > a3
           ·
            rw [if_pos c30] at H
            have c30b0 : decide (a3 < t547) = true := decide_eq_true c30
            clear c30
            simp only [Option.some.injEq, Prod.mk.injEq] at H
            obtain ⟨rfl, rfl, rfl, rfl⟩ := H
            obtain ⟨Ao31, co31, eo31⟩ := Kd.R_slice HO_14.out
            subst eo31
            try go_wp2
            have n0_ := Aside0.mk (Kd.R_drew HO_13.out)
            have n1_ := Aside0.mk (Kd.R_drew HO_14.out)
            have n2_ := Aside0.mk (blk_drew BK533.out)
            have n3_ := Aside0.mk (blk_drew BK534.out)
            have n4_ := Aside0.mk (blk_drew BK535.out)
            have n5_ := Aside0.mk (below_drew1 HB.out)
            clear HO_13 HO_14 BK533 BK534 BK535 HB
            have HO_13 := n0_
            have HO_14 := n1_
            have BK533 := n2_
            have BK534 := n3_
            have BK535 := n4_
            have HB := n5_
            clear n0_ n1_ n2_ n3_ n4_ n5_
            have p543 : 0 ≤ (x15_1 : Int) := of_decide_eq_true (by first | (with_reducible assumption) | assumption)
            have q543 : x15_1 < (t537.length : Int) := of_decide_eq_true (by first | (with_reducible assumption) | assumption)
            obtain ⟨ad543, e543, hx543_0⟩ := Kd.at_int (Kd.R_reads' HO_13.out).2.2 x15_1 p543 q543
            cases e543
            replace p543 := eq_true p543
            replace q543 := eq_true q543
            have p544 : 0 ≤ (x16_2 : Int) := of_decide_eq_true (by first | (with_reducible assumption) | assumption)
            have q544 : x16_2 < (t540.length : Int) := of_decide_eq_true (by first | (with_reducible assumption) | assumption)
            obtain ⟨ad544, e544, hx544_0⟩ := Kd.at_int (Kd.R_reads' HO_14.out).2.2 x16_2 p544 q544
            cases e544
            replace p544 := eq_true p544
            replace q544 := eq_true q544
            refine start_ (n := 15) (S := fun w' => w'.cell? ⟨gb533, 0, none⟩ = some (.slice A0_0 l0_0.length c0_0) ∧ w'.cell? ⟨gb533, 1, none⟩ = some (.slice A0_1 l0_1.length c0_1) ∧ w'.cell? ⟨gb533, 2, none⟩ = some (.slice A0_2 l0_2.length c0_2) ∧ w'.cell? (ad543.add (x15_1).toNat) = some (.int .i64 (rd t537 x15_1)) ∧ w'.cell? (ad544.add (x16_2).toNat) = some (.int .i64 (rd t540 x16_2))) (ds := []) #[false, false, false, false, false, false, false, false, false, false, false, false, false, false, false] (by kernel_rfl) rfl rfl ⟨(blk_cell BK533.out 0).trans rfl, (blk_cell BK533.out 1).trans rfl, (blk_cell BK533.out 2).trans rfl, hx543_0, hx544_0⟩ (fun hHeld => ?_); refine with_tabW swashplateref01_Below.tab11 swashplateref01_Below.bits11 (fun HT_ HW_ => ?_)
            generalize wr.drew = w32 at HO_13 HO_14 BK533 BK534 BK535 HB hx543_0 hx544_0 hHeld ⊢
            refine pure_ (i := 1) (N := some 48) (v := ?_) (a' := ?_) #[false, true, false, false, false, false, false, false, false, false, false, false, false, false, false] rfl rfl (any_of HT_.out (by kernel_rfl)) (fun _ _ _ h => h) (Or.inl ⟨by rfl, ?_⟩) ?_ ?_
            rotate_left
            ·
             intro w'
             go_simp
             with_reducible rfl
            rotate_left
            ·
             simp only [Act.put, List.setIfInBounds_toArray, List.set_cons_zero, List.set_cons_succ, i64_w, i32_w]
             rfl
            refine pure_ (i := 2) (N := some 49) (v := ?_) (a' := ?_) #[false, true, true, false, false, false, false, false, false, false, false, false, false, false, false] rfl rfl (any_of HT_.out (by kernel_rfl)) (fun _ _ _ h => h) (Or.inl ⟨by rfl, ?_⟩) ?_ ?_
            rotate_left
            ·
             intro w'
             go_simp
             with_reducible rfl
            rotate_left
            ·
             simp only [Act.put, List.setIfInBounds_toArray, List.set_cons_zero, List.set_cons_succ, i64_w, i32_w]
             rfl
            refine pure_ (i := 3) (N := some 50) (v := ?_) (a' := ?_) #[false, true, true, true, false, false, false, false, false, false, false, false, false, false, false] rfl rfl (any_of HT_.out (by kernel_rfl)) (fun _ _ _ h => h) (Or.inl ⟨by rfl, ?_⟩) ?_ ?_
            rotate_left
            ·
             intro w'
             go_simp
             with_reducible rfl
            rotate_left
            ·
             simp only [Act.put, List.setIfInBounds_toArray, List.set_cons_zero, List.set_cons_succ, i64_w, i32_w]
             rfl
            refine pure_ (i := 5) (N := some 52) (v := ?_) (a' := ?_) #[false, true, true, true, false, true, false, false, false, false, false, false, false, false, false] rfl rfl (any_of HT_.out (by kernel_rfl)) (fun _ _ _ h => h) (Or.inl ⟨by rfl, ?_⟩) ?_ ?_
            rotate_left
            ·
             intro w'
             go_simp
             with_reducible rfl
            rotate_left
            ·
             simp only [Act.put, List.setIfInBounds_toArray, List.set_cons_zero, List.set_cons_succ, i64_w, i32_w]
             rfl
            refine pure_ (i := 6) (N := some 53) (v := ?_) (a' := ?_) #[false, true, true, true, false, true, true, false, false, false, false, false, false, false, false] rfl rfl (any_of HT_.out (by kernel_rfl)) (fun _ _ _ h => h) (Or.inl ⟨by rfl, ?_⟩) ?_ ?_
            rotate_left
            ·
             intro w'
             go_simp
             with_reducible rfl
            rotate_left
            ·
             simp only [Act.put, List.setIfInBounds_toArray, List.set_cons_zero, List.set_cons_succ, i64_w, i32_w]
             rfl
            refine pure_ (i := 7) (N := some 54) (v := ?_) (a' := ?_) #[false, true, true, true, false, true, true, true, false, false, false, false, false, false, false] rfl rfl (any_of HT_.out (by kernel_rfl)) (fun _ _ _ h => h) (Or.inl ⟨by rfl, ?_⟩) ?_ ?_
            rotate_left
            ·
             intro w'
             go_simp
             with_reducible rfl
            rotate_left
            ·
             simp only [Act.put, List.setIfInBounds_toArray, List.set_cons_zero, List.set_cons_succ, i64_w, i32_w]
             rfl
            refine take_ (i := 0) (N := some 47) (v := ?_) (a' := ?_) #[true, true, true, true, false, true, true, true, false, false, false, false, false, false, false] rfl rfl (take_ofW HT_.out HW_.out (by kernel_rfl)) (fun _ _ _ h => h) (Or.inl ⟨by rfl, ?_⟩) hHeld ?_ ?_
            rotate_left
            ·
             rintro w' ⟨s0, s1, s2, s3, s4⟩
             go_simp
             with_reducible rfl
            rotate_left
            ·
             simp only [Act.put, List.setIfInBounds_toArray, List.set_cons_zero, List.set_cons_succ, i64_w, i32_w]
             rfl
            refine take_ (i := 4) (N := some 51) (v := ?_) (a' := ?_) #[true, true, true, true, true, true, true, true, false, false, false, false, false, false, false] rfl rfl (take_ofW HT_.out HW_.out (by kernel_rfl)) (fun _ _ _ h => h) (Or.inl ⟨by rfl, ?_⟩) hHeld ?_ ?_
            rotate_left
            ·
             rintro w' ⟨s0, s1, s2, s3, s4⟩
             go_simp
             with_reducible rfl
            rotate_left
            ·
             simp only [Act.put, List.setIfInBounds_toArray, List.set_cons_zero, List.set_cons_succ, i64_w, i32_w]
             rfl
            refine take_ (i := 8) (N := some 55) (v := ?_) (a' := ?_) #[true, true, true, true, true, true, true, true, true, false, false, false, false, false, false] rfl rfl (take_ofW HT_.out HW_.out (by kernel_rfl)) (fun _ _ _ h => h) (Or.inl ⟨by rfl, ?_⟩) hHeld ?_ ?_
            rotate_left
            ·
             rintro w' ⟨s0, s1, s2, s3, s4⟩
             go_simp
             with_reducible rfl
            rotate_left
            ·
             simp only [Act.put, List.setIfInBounds_toArray, List.set_cons_zero, List.set_cons_succ, i64_w, i32_w]
             rfl
            refine one_ (i := 9) (N := some 56) #[true, true, true, true, true, true, true, true, true, true, false, false, false, false, false] rfl rfl (one_of HT_.out (by kernel_rfl)) (by decide) (fun K hK => ?_)
            refine goes_ Try.func102 (by kernel_rfl) rfl #[.agg #[.slice A0_0 l0_0.length c0_0, .slice A0_1 l0_1.length c0_1, .slice A0_2 l0_2.length c0_2], .int .i64 (rd t537 x15_1), .int .i64 (rd t540 x16_2)] (by rfl) rfl rfl (by (try simp only [List.map_toArray, List.map_cons, List.map_nil]); first | done | rfl | (simp only [List.length_drop, List.length_take]; rfl)) ?_
            with_reducible refine (swashplateref01_Value.calls _ _ l0_0 _ _ l0_1 _ _ l0_2 (rd t537 x15_1) (rd t540 x16_2) t545 t546 _ ?side1 ?side2 ?side3 ?side4 ?side5 ?side6 A28.out).mono ?_
            (case side1 => exact cr_ (Kd.C_below HR0_0.out HB.out))
            (case side2 => exact HC0_0.out)
            (case side3 => exact cr_ (Kd.C_below HR0_1.out HB.out))
            (case side4 => exact HC0_1.out)
            (case side5 => exact cr_ (Kd.C_below HR0_2.out HB.out))
            (case side6 => exact HC0_2.out)
            rintro e w33 ⟨rfl, hb⟩
            have HS3_ := (hb.cell (World.block_lt_of_cell? _ _ (hHeld.2.2.2.1))).trans (hHeld.2.2.2.1)
            have HS4_ := (hb.cell (World.block_lt_of_cell? _ _ (hHeld.2.2.2.2))).trans (hHeld.2.2.2.2)
            refine ⟨_, rfl, ?_⟩
            have n0_ := Aside0.mk (Kd.R_below (by (with_reducible repeat (first | apply Kd.R_alloc | apply Kd.R_drewN | apply Kd.R_drew)); exact HO_13.out) hb)
            have n1_ := Aside0.mk (Kd.R_below (by (with_reducible repeat (first | apply Kd.R_alloc | apply Kd.R_drewN | apply Kd.R_drew)); exact HO_14.out) hb)
            have n2_ := Aside0.mk (blk_below (bk_ BK533.out) hb)
            have n3_ := Aside0.mk (blk_below (bk_ BK534.out) hb)
            have n4_ := Aside0.mk (blk_below (bk_ BK535.out) hb)
            have n5_ := Aside0.mk (below_step (bl_ HB.out) hb)
            clear HO_13 HO_14 BK533 BK534 BK535 HB
            have HO_13 := n0_
            have HO_14 := n1_
            have BK533 := n2_
            have BK534 := n3_
            have BK535 := n4_
            have HB := n5_
            clear n0_ n1_ n2_ n3_ n4_ n5_
            (try clear hb)
            (try clear hb2)
            (try clear hk)
            (try clear hi)
            refine hK.out _ _ ⟨(blk_cell BK533.out 0).trans rfl, (blk_cell BK533.out 1).trans rfl, (blk_cell BK533.out 2).trans rfl, HS3_, HS4_⟩ (fun hHeld => ?_)
            clear hK K
            refine norm_ (a' := ?_) ?_ ?_
            rotate_left
            ·
             show Act.put _ (some 56) _ = _
             simp only [Act.put, List.setIfInBounds_toArray, List.set_cons_zero, List.set_cons_succ, i64_w, i32_w]
             rfl
            refine pure_ (i := 10) (N := some 46) (v := ?_) (a' := ?_) #[true, true, true, true, true, true, true, true, true, true, true, false, false, false, false] rfl rfl (any_of HT_.out (by kernel_rfl)) (fun _ _ _ h => h) (Or.inl ⟨by rfl, ?_⟩) ?_ ?_
            rotate_left
            ·
             intro w'
             go_simp
             with_reducible rfl
            rotate_left
            ·
             simp only [Act.put, List.setIfInBounds_toArray, List.set_cons_zero, List.set_cons_succ, i64_w, i32_w]
             rfl
            refine pure_ (i := 11) (N := some 57) (v := ?_) (a' := ?_) #[true, true, true, true, true, true, true, true, true, true, true, true, false, false, false] rfl rfl (any_of HT_.out (by kernel_rfl)) (fun _ _ _ h => h) (Or.inl ⟨by rfl, ?_⟩) ?_ ?_
            rotate_left
            ·
             intro w'
             go_simp
             with_reducible rfl
            rotate_left
            ·
             simp only [Act.put, List.setIfInBounds_toArray, List.set_cons_zero, List.set_cons_succ, i64_w, i32_w]
             rfl
            refine pure_ (i := 12) (N := some 58) (v := ?_) (a' := ?_) #[true, true, true, true, true, true, true, true, true, true, true, true, true, false, false] rfl rfl (any_of HT_.out (by kernel_rfl)) (fun _ _ _ h => h) (Or.inl ⟨by rfl, ?_⟩) ?_ ?_
            rotate_left
            ·
             intro w'
             go_simp
             with_reducible rfl
            rotate_left
            ·
             simp only [Act.put, List.setIfInBounds_toArray, List.set_cons_zero, List.set_cons_succ, i64_w, i32_w]
             rfl
            refine pure_ (i := 13) (N := some 17) (v := ?_) (a' := ?_) #[true, true, true, true, true, true, true, true, true, true, true, true, true, true, false] rfl rfl (any_of HT_.out (by kernel_rfl)) (fun _ _ _ h => h) (Or.inl ⟨by rfl, ?_⟩) ?_ ?_
            rotate_left
            ·
             intro w'
             go_simp
             with_reducible rfl
            rotate_left
            ·
             simp only [Act.put, List.setIfInBounds_toArray, List.set_cons_zero, List.set_cons_succ, i64_w, i32_w]
             rfl
            refine pure_ (i := 14) (N := some 18) (v := ?_) (a' := ?_) #[true, true, true, true, true, true, true, true, true, true, true, true, true, true, true] rfl rfl (any_of HT_.out (by kernel_rfl)) (fun _ _ _ h => h) (Or.inl ⟨by rfl, ?_⟩) ?_ ?_
            rotate_left
            ·
             intro w'
             go_simp
             with_reducible rfl
            rotate_left
            ·
             simp only [Act.put, List.setIfInBounds_toArray, List.set_cons_zero, List.set_cons_succ, i64_w, i32_w]
             rfl
            refine done_ (done_of HT_.out (by kernel_rfl)) ?_
            try go_wp2_with (first | ((with_reducible refine gate_callee (f := 108) rfl ?_); refine goesL_ (some 61) rfl rfl Try.func108 (by kernel_rfl) rfl #[.int .i64 t545, .int .i64 t546] rfl (by (try simp only [List.map_toArray, List.map_cons, List.map_nil]); first | done | rfl | (simp only [List.length_drop, List.length_take]; rfl)) ?_; (with_reducible refine (swashplateref01_ceil.calls t545 t546 t547 _ A29.out).mono ?_); rintro e w' ⟨rfl, ⟨nd, rfl⟩⟩; refine ⟨_, rfl, ?_⟩))
            (try (rw [drewN_self w33]; generalize hq_ : World.drewN w33 _ = w33; have n0_ : Aside0 (Kd.R (Kd.int .i64) 3 w33 w.heap.size (fun k_ => some k_ ≠ (.slice (some ad544) t540.length co31 : Value).ownBlock) (.slice (some ad543) t537.length co23) t537) := ⟨by rw [← hq_]; exact (by (with_reducible repeat (first | apply Kd.R_alloc | apply Kd.R_drewN | apply Kd.R_drew)); exact HO_13.out)⟩; have n1_ : Aside0 (Kd.R (Kd.int .i64) 3 w33 w.heap.size (fun k_ => some k_ ≠ (.slice (some ad543) t537.length co23 : Value).ownBlock) (.slice (some ad544) t540.length co31) t540) := ⟨by rw [← hq_]; exact (by (with_reducible repeat (first | apply Kd.R_alloc | apply Kd.R_drewN | apply Kd.R_drew)); exact HO_14.out)⟩; have n2_ : Aside0 (w33.heap[gb533]? = some (.cells #[.slice A0_0 l0_0.length c0_0, .slice A0_1 l0_1.length c0_1, .slice A0_2 l0_2.length c0_2] 25 (0, 0))) := ⟨by rw [← hq_]; exact (bk_ BK533.out)⟩; have n3_ : Aside0 (w33.heap[gb534]? = some (.cells #[.int .i64 a1_0, .int .i64 a1_1] 27 (0, 0))) := ⟨by rw [← hq_]; exact (bk_ BK534.out)⟩; have n4_ : Aside0 (w33.heap[gb535]? = some (.cells #[.int .i64 a2_0, .int .i64 a2_1] 27 (0, 0))) := ⟨by rw [← hq_]; exact (bk_ BK535.out)⟩; have n5_ : Aside0 (Below w.heap.size w w33) := ⟨by rw [← hq_]; exact (bl_ HB.out)⟩; clear HO_13 HO_14 BK533 BK534 BK535 HB hq_; have HO_13 := n0_; have HO_14 := n1_; have BK533 := n2_; have BK534 := n3_; have BK535 := n4_; have HB := n5_; clear n0_ n1_ n2_ n3_ n4_ n5_))
            have n0_ := Aside0.mk (Kd.R_drew HO_13.out)
            have n1_ := Aside0.mk (Kd.R_drew HO_14.out)
            have n2_ := Aside0.mk (blk_drew BK533.out)
            have n3_ := Aside0.mk (blk_drew BK534.out)
            have n4_ := Aside0.mk (blk_drew BK535.out)
            have n5_ := Aside0.mk (below_drew1 HB.out)
            clear HO_13 HO_14 BK533 BK534 BK535 HB
            have HO_13 := n0_
            have HO_14 := n1_
            have BK533 := n2_
            have BK534 := n3_
            have BK535 := n4_
            have HB := n5_
            clear n0_ n1_ n2_ n3_ n4_ n5_
            have p548 : 0 ≤ (x15_1 : Int) := of_decide_eq_true (by first | (with_reducible assumption) | assumption)
            have q548 : x15_1 < (t537.length : Int) := of_decide_eq_true (by first | (with_reducible assumption) | assumption)
            obtain ⟨ad548, e548, hx548_0⟩ := Kd.at_int (Kd.R_reads' HO_13.out).2.2 x15_1 p548 q548
            obtain rfl : ad543 = ad548 := (by injection e548)
            replace p548 := eq_true p548
            replace q548 := eq_true q548
            have p549 : 0 ≤ (x16_2 : Int) := of_decide_eq_true (by first | (with_reducible assumption) | assumption)
            have q549 : x16_2 < (t540.length : Int) := of_decide_eq_true (by first | (with_reducible assumption) | assumption)
            obtain ⟨ad549, e549, hx549_0⟩ := Kd.at_int (Kd.R_reads' HO_14.out).2.2 x16_2 p549 q549
            obtain rfl : ad544 = ad549 := (by injection e549)
            replace p549 := eq_true p549
            replace q549 := eq_true q549
            refine start_ (n := 12) (S := fun w' => w'.cell? (ad543.add (x15_1).toNat) = some (.int .i64 (rd t537 x15_1)) ∧ w'.cell? (ad544.add (x16_2).toNat) = some (.int .i64 (rd t540 x16_2))) (ds := []) #[false, false, false, false, false, false, false, false, false, false, false, false] (by kernel_rfl) rfl rfl ⟨hx548_0, hx549_0⟩ (fun hHeld => ?_); refine with_tabW swashplateref01_Below.tab13 swashplateref01_Below.bits13 (fun HT_ HW_ => ?_)
            generalize w33.drew = w34 at HO_13 HO_14 BK533 BK534 BK535 HB hx548_0 hx549_0 hHeld ⊢
            refine pure_ (i := 0) (N := some 64) (v := ?_) (a' := ?_) #[true, false, false, false, false, false, false, false, false, false, false, false] rfl rfl (any_of HT_.out (by kernel_rfl)) (fun _ _ _ h => h) (Or.inl ⟨by rfl, ?_⟩) ?_ ?_
            rotate_left
            ·
             intro w'
             go_simp
             with_reducible rfl
            rotate_left
            ·
             simp only [Act.put, List.setIfInBounds_toArray, List.set_cons_zero, List.set_cons_succ, i64_w, i32_w]
             rfl
            refine pure_ (i := 1) (N := some 65) (v := ?_) (a' := ?_) #[true, true, false, false, false, false, false, false, false, false, false, false] rfl rfl (any_of HT_.out (by kernel_rfl)) (fun _ _ _ h => h) (Or.inl ⟨by rfl, ?_⟩) ?_ ?_
            rotate_left
            ·
             intro w'
             go_simp
             with_reducible rfl
            rotate_left
            ·
             simp only [Act.put, List.setIfInBounds_toArray, List.set_cons_zero, List.set_cons_succ, i64_w, i32_w]
             rfl
            refine pure_ (i := 2) (N := some 66) (v := ?_) (a' := ?_) #[true, true, true, false, false, false, false, false, false, false, false, false] rfl rfl (any_of HT_.out (by kernel_rfl)) (fun _ _ _ h => h) (Or.inl ⟨by rfl, ?_⟩) ?_ ?_
            rotate_left
            ·
             intro w'
             go_simp
             with_reducible rfl
            rotate_left
            ·
             simp only [Act.put, List.setIfInBounds_toArray, List.set_cons_zero, List.set_cons_succ, i64_w, i32_w]
             rfl
            refine pure_ (i := 4) (N := some 68) (v := ?_) (a' := ?_) #[true, true, true, false, true, false, false, false, false, false, false, false] rfl rfl (any_of HT_.out (by kernel_rfl)) (fun _ _ _ h => h) (Or.inl ⟨by rfl, ?_⟩) ?_ ?_
            rotate_left
            ·
             intro w'
             go_simp
             with_reducible rfl
            rotate_left
            ·
             simp only [Act.put, List.setIfInBounds_toArray, List.set_cons_zero, List.set_cons_succ, i64_w, i32_w]
             rfl
            refine pure_ (i := 5) (N := some 69) (v := ?_) (a' := ?_) #[true, true, true, false, true, true, false, false, false, false, false, false] rfl rfl (any_of HT_.out (by kernel_rfl)) (fun _ _ _ h => h) (Or.inl ⟨by rfl, ?_⟩) ?_ ?_
            rotate_left
            ·
             intro w'
             go_simp
             with_reducible rfl
            rotate_left
            ·
             simp only [Act.put, List.setIfInBounds_toArray, List.set_cons_zero, List.set_cons_succ, i64_w, i32_w]
             rfl
            refine pure_ (i := 6) (N := some 70) (v := ?_) (a' := ?_) #[true, true, true, false, true, true, true, false, false, false, false, false] rfl rfl (any_of HT_.out (by kernel_rfl)) (fun _ _ _ h => h) (Or.inl ⟨by rfl, ?_⟩) ?_ ?_
            rotate_left
            ·
             intro w'
             go_simp
             with_reducible rfl
            rotate_left
            ·
             simp only [Act.put, List.setIfInBounds_toArray, List.set_cons_zero, List.set_cons_succ, i64_w, i32_w]
             rfl
            refine take_ (i := 3) (N := some 67) (v := ?_) (a' := ?_) #[true, true, true, true, true, true, true, false, false, false, false, false] rfl rfl (take_ofW HT_.out HW_.out (by kernel_rfl)) (fun _ _ _ h => h) (Or.inl ⟨by rfl, ?_⟩) hHeld ?_ ?_
            rotate_left
            ·
             rintro w' ⟨s0, s1⟩
             go_simp
             with_reducible rfl
            rotate_left
            ·
             simp only [Act.put, List.setIfInBounds_toArray, List.set_cons_zero, List.set_cons_succ, i64_w, i32_w]
             rfl
            refine pure_ (i := 8) (N := some 8) (v := ?_) (a' := ?_) #[true, true, true, true, true, true, true, false, true, false, false, false] rfl rfl (any_of HT_.out (by kernel_rfl)) (fun _ _ _ h => h) (Or.inl ⟨by rfl, ?_⟩) ?_ ?_
            rotate_left
            ·
             intro w'
             go_simp
             with_reducible rfl
            rotate_left
            ·
             simp only [Act.put, List.setIfInBounds_toArray, List.set_cons_zero, List.set_cons_succ, i64_w, i32_w]
             rfl
            refine take_ (i := 7) (N := some 71) (v := ?_) (a' := ?_) #[true, true, true, true, true, true, true, true, true, false, false, false] rfl rfl (take_ofW HT_.out HW_.out (by kernel_rfl)) (fun _ _ _ h => h) (Or.inl ⟨by rfl, ?_⟩) hHeld ?_ ?_
            rotate_left
            ·
             rintro w' ⟨s0, s1⟩
             go_simp
             with_reducible rfl
            rotate_left
            ·
             simp only [Act.put, List.setIfInBounds_toArray, List.set_cons_zero, List.set_cons_succ, i64_w, i32_w]
             rfl
            refine pure_ (i := 9) (N := some 9) (v := ?_) (a' := ?_) #[true, true, true, true, true, true, true, true, true, true, false, false] rfl rfl (any_of HT_.out (by kernel_rfl)) (fun _ _ _ h => h) (Or.inl ⟨by rfl, ?_⟩) ?_ ?_
            rotate_left
            ·
             intro w'
             go_simp
             with_reducible rfl
            rotate_left
            ·
             simp only [Act.put, List.setIfInBounds_toArray, List.set_cons_zero, List.set_cons_succ, i64_w, i32_w]
             rfl
            refine pure_ (i := 10) (N := some 10) (v := ?_) (a' := ?_) #[true, true, true, true, true, true, true, true, true, true, true, false] rfl rfl (any_of HT_.out (by kernel_rfl)) (fun _ _ _ h => h) (Or.inl ⟨by rfl, ?_⟩) ?_ ?_
            rotate_left
            ·
             intro w'
             go_simp
             with_reducible rfl
            rotate_left
            ·
             simp only [Act.put, List.setIfInBounds_toArray, List.set_cons_zero, List.set_cons_succ, i64_w, i32_w]
             rfl
            refine pure_ (i := 11) (N := some 11) (v := ?_) (a' := ?_) #[true, true, true, true, true, true, true, true, true, true, true, true] rfl rfl (any_of HT_.out (by kernel_rfl)) (fun _ _ _ h => h) (Or.inl ⟨by rfl, ?_⟩) ?_ ?_
            rotate_left
            ·
             intro w'
             go_simp
             with_reducible rfl
            rotate_left
            ·
             simp only [Act.put, List.setIfInBounds_toArray, List.set_cons_zero, List.set_cons_succ, i64_w, i32_w]
             rfl
            refine done_ (done_of HT_.out (by kernel_rfl)) ?_
            try go_wp2
            refine bodyPost_ret (results_list (rs := [.tmp 8, .tmp 9, .tmp 10, .tmp 11]) rfl (by simp) (.tmp (.tmp (.tmp (.tmp .nil))))) rfl ?_
            exact ⟨by first | rfl | (simp [errW_none, errW_some] <;> rfl) | (simp [*, errW_none, errW_some] <;> rfl), bl_ HB.out⟩
           ·
            rw [if_neg c30] at H
            have c30b0 : decide (a3 < t547) = false := decide_eq_false c30
            clear c30
            have H' := Aside0.mk H
            clear H
            obtain ⟨Ao35, co35, eo35⟩ := Kd.R_slice HO_14.out
            subst eo35
            try go_wp2
            have n0_ := Aside0.mk (Kd.R_drew HO_13.out)
            have n1_ := Aside0.mk (Kd.R_drew HO_14.out)
            have n2_ := Aside0.mk (blk_drew BK533.out)
            have n3_ := Aside0.mk (blk_drew BK534.out)
            have n4_ := Aside0.mk (blk_drew BK535.out)
            have n5_ := Aside0.mk (below_drew1 HB.out)
            clear HO_13 HO_14 BK533 BK534 BK535 HB
            have HO_13 := n0_
            have HO_14 := n1_
            have BK533 := n2_
            have BK534 := n3_
            have BK535 := n4_
            have HB := n5_
            clear n0_ n1_ n2_ n3_ n4_ n5_
            have p543 : 0 ≤ (x15_1 : Int) := of_decide_eq_true (by first | (with_reducible assumption) | assumption)
            have q543 : x15_1 < (t537.length : Int) := of_decide_eq_true (by first | (with_reducible assumption) | assumption)
            obtain ⟨ad543, e543, hx543_0⟩ := Kd.at_int (Kd.R_reads' HO_13.out).2.2 x15_1 p543 q543
            cases e543
            replace p543 := eq_true p543
            replace q543 := eq_true q543
            have p544 : 0 ≤ (x16_2 : Int) := of_decide_eq_true (by first | (with_reducible assumption) | assumption)
            have q544 : x16_2 < (t540.length : Int) := of_decide_eq_true (by first | (with_reducible assumption) | assumption)
            obtain ⟨ad544, e544, hx544_0⟩ := Kd.at_int (Kd.R_reads' HO_14.out).2.2 x16_2 p544 q544
            cases e544
            replace p544 := eq_true p544
            replace q544 := eq_true q544
            refine start_ (n := 15) (S := fun w' => w'.cell? ⟨gb533, 0, none⟩ = some (.slice A0_0 l0_0.length c0_0) ∧ w'.cell? ⟨gb533, 1, none⟩ = some (.slice A0_1 l0_1.length c0_1) ∧ w'.cell? ⟨gb533, 2, none⟩ = some (.slice A0_2 l0_2.length c0_2) ∧ w'.cell? (ad543.add (x15_1).toNat) = some (.int .i64 (rd t537 x15_1)) ∧ w'.cell? (ad544.add (x16_2).toNat) = some (.int .i64 (rd t540 x16_2))) (ds := []) #[false, false, false, false, false, false, false, false, false, false, false, false, false, false, false] (by kernel_rfl) rfl rfl ⟨(blk_cell BK533.out 0).trans rfl, (blk_cell BK533.out 1).trans rfl, (blk_cell BK533.out 2).trans rfl, hx543_0, hx544_0⟩ (fun hHeld => ?_); refine with_tabW swashplateref01_Below.tab11 swashplateref01_Below.bits11 (fun HT_ HW_ => ?_)
            generalize wr.drew = w36 at HO_13 HO_14 BK533 BK534 BK535 HB hx543_0 hx544_0 hHeld ⊢
            refine pure_ (i := 1) (N := some 48) (v := ?_) (a' := ?_) #[false, true, false, false, false, false, false, false, false, false, false, false, false, false, false] rfl rfl (any_of HT_.out (by kernel_rfl)) (fun _ _ _ h => h) (Or.inl ⟨by rfl, ?_⟩) ?_ ?_
            rotate_left
            ·
             intro w'
             go_simp
             with_reducible rfl
            rotate_left
            ·
             simp only [Act.put, List.setIfInBounds_toArray, List.set_cons_zero, List.set_cons_succ, i64_w, i32_w]
             rfl
            refine pure_ (i := 2) (N := some 49) (v := ?_) (a' := ?_) #[false, true, true, false, false, false, false, false, false, false, false, false, false, false, false] rfl rfl (any_of HT_.out (by kernel_rfl)) (fun _ _ _ h => h) (Or.inl ⟨by rfl, ?_⟩) ?_ ?_
            rotate_left
            ·
             intro w'
             go_simp
             with_reducible rfl
            rotate_left
            ·
             simp only [Act.put, List.setIfInBounds_toArray, List.set_cons_zero, List.set_cons_succ, i64_w, i32_w]
             rfl
            refine pure_ (i := 3) (N := some 50) (v := ?_) (a' := ?_) #[false, true, true, true, false, false, false, false, false, false, false, false, false, false, false] rfl rfl (any_of HT_.out (by kernel_rfl)) (fun _ _ _ h => h) (Or.inl ⟨by rfl, ?_⟩) ?_ ?_
            rotate_left
            ·
             intro w'
             go_simp
             with_reducible rfl
            rotate_left
            ·
             simp only [Act.put, List.setIfInBounds_toArray, List.set_cons_zero, List.set_cons_succ, i64_w, i32_w]
             rfl
            refine pure_ (i := 5) (N := some 52) (v := ?_) (a' := ?_) #[false, true, true, true, false, true, false, false, false, false, false, false, false, false, false] rfl rfl (any_of HT_.out (by kernel_rfl)) (fun _ _ _ h => h) (Or.inl ⟨by rfl, ?_⟩) ?_ ?_
            rotate_left
            ·
             intro w'
             go_simp
             with_reducible rfl
            rotate_left
            ·
             simp only [Act.put, List.setIfInBounds_toArray, List.set_cons_zero, List.set_cons_succ, i64_w, i32_w]
             rfl
            refine pure_ (i := 6) (N := some 53) (v := ?_) (a' := ?_) #[false, true, true, true, false, true, true, false, false, false, false, false, false, false, false] rfl rfl (any_of HT_.out (by kernel_rfl)) (fun _ _ _ h => h) (Or.inl ⟨by rfl, ?_⟩) ?_ ?_
            rotate_left
            ·
             intro w'
             go_simp
             with_reducible rfl
            rotate_left
            ·
             simp only [Act.put, List.setIfInBounds_toArray, List.set_cons_zero, List.set_cons_succ, i64_w, i32_w]
             rfl
            refine pure_ (i := 7) (N := some 54) (v := ?_) (a' := ?_) #[false, true, true, true, false, true, true, true, false, false, false, false, false, false, false] rfl rfl (any_of HT_.out (by kernel_rfl)) (fun _ _ _ h => h) (Or.inl ⟨by rfl, ?_⟩) ?_ ?_
            rotate_left
            ·
             intro w'
             go_simp
             with_reducible rfl
            rotate_left
            ·
             simp only [Act.put, List.setIfInBounds_toArray, List.set_cons_zero, List.set_cons_succ, i64_w, i32_w]
             rfl
            refine take_ (i := 0) (N := some 47) (v := ?_) (a' := ?_) #[true, true, true, true, false, true, true, true, false, false, false, false, false, false, false] rfl rfl (take_ofW HT_.out HW_.out (by kernel_rfl)) (fun _ _ _ h => h) (Or.inl ⟨by rfl, ?_⟩) hHeld ?_ ?_
            rotate_left
            ·
             rintro w' ⟨s0, s1, s2, s3, s4⟩
             go_simp
             with_reducible rfl
            rotate_left
            ·
             simp only [Act.put, List.setIfInBounds_toArray, List.set_cons_zero, List.set_cons_succ, i64_w, i32_w]
             rfl
            refine take_ (i := 4) (N := some 51) (v := ?_) (a' := ?_) #[true, true, true, true, true, true, true, true, false, false, false, false, false, false, false] rfl rfl (take_ofW HT_.out HW_.out (by kernel_rfl)) (fun _ _ _ h => h) (Or.inl ⟨by rfl, ?_⟩) hHeld ?_ ?_
            rotate_left
            ·
             rintro w' ⟨s0, s1, s2, s3, s4⟩
             go_simp
             with_reducible rfl
            rotate_left
            ·
             simp only [Act.put, List.setIfInBounds_toArray, List.set_cons_zero, List.set_cons_succ, i64_w, i32_w]
             rfl
            refine take_ (i := 8) (N := some 55) (v := ?_) (a' := ?_) #[true, true, true, true, true, true, true, true, true, false, false, false, false, false, false] rfl rfl (take_ofW HT_.out HW_.out (by kernel_rfl)) (fun _ _ _ h => h) (Or.inl ⟨by rfl, ?_⟩) hHeld ?_ ?_
            rotate_left
            ·
             rintro w' ⟨s0, s1, s2, s3, s4⟩
             go_simp
             with_reducible rfl
            rotate_left
            ·
             simp only [Act.put, List.setIfInBounds_toArray, List.set_cons_zero, List.set_cons_succ, i64_w, i32_w]
             rfl
            refine one_ (i := 9) (N := some 56) #[true, true, true, true, true, true, true, true, true, true, false, false, false, false, false] rfl rfl (one_of HT_.out (by kernel_rfl)) (by decide) (fun K hK => ?_)
            refine goes_ Try.func102 (by kernel_rfl) rfl #[.agg #[.slice A0_0 l0_0.length c0_0, .slice A0_1 l0_1.length c0_1, .slice A0_2 l0_2.length c0_2], .int .i64 (rd t537 x15_1), .int .i64 (rd t540 x16_2)] (by rfl) rfl rfl (by (try simp only [List.map_toArray, List.map_cons, List.map_nil]); first | done | rfl | (simp only [List.length_drop, List.length_take]; rfl)) ?_
            with_reducible refine (swashplateref01_Value.calls _ _ l0_0 _ _ l0_1 _ _ l0_2 (rd t537 x15_1) (rd t540 x16_2) t545 t546 _ ?side1 ?side2 ?side3 ?side4 ?side5 ?side6 A28.out).mono ?_
            (case side1 => exact cr_ (Kd.C_below HR0_0.out HB.out))
            (case side2 => exact HC0_0.out)
            (case side3 => exact cr_ (Kd.C_below HR0_1.out HB.out))
            (case side4 => exact HC0_1.out)
            (case side5 => exact cr_ (Kd.C_below HR0_2.out HB.out))
            (case side6 => exact HC0_2.out)
            rintro e w37 ⟨rfl, hb⟩
            have HS3_ := (hb.cell (World.block_lt_of_cell? _ _ (hHeld.2.2.2.1))).trans (hHeld.2.2.2.1)
            have HS4_ := (hb.cell (World.block_lt_of_cell? _ _ (hHeld.2.2.2.2))).trans (hHeld.2.2.2.2)
            refine ⟨_, rfl, ?_⟩
            have n0_ := Aside0.mk (Kd.R_below (by (with_reducible repeat (first | apply Kd.R_alloc | apply Kd.R_drewN | apply Kd.R_drew)); exact HO_13.out) hb)
            have n1_ := Aside0.mk (Kd.R_below (by (with_reducible repeat (first | apply Kd.R_alloc | apply Kd.R_drewN | apply Kd.R_drew)); exact HO_14.out) hb)
            have n2_ := Aside0.mk (blk_below (bk_ BK533.out) hb)
            have n3_ := Aside0.mk (blk_below (bk_ BK534.out) hb)
            have n4_ := Aside0.mk (blk_below (bk_ BK535.out) hb)
            have n5_ := Aside0.mk (below_step (bl_ HB.out) hb)
            clear HO_13 HO_14 BK533 BK534 BK535 HB
            have HO_13 := n0_
            have HO_14 := n1_
            have BK533 := n2_
            have BK534 := n3_
            have BK535 := n4_
            have HB := n5_
            clear n0_ n1_ n2_ n3_ n4_ n5_
            (try clear hb)
            (try clear hb2)
            (try clear hk)
            (try clear hi)
            refine hK.out _ _ ⟨(blk_cell BK533.out 0).trans rfl, (blk_cell BK533.out 1).trans rfl, (blk_cell BK533.out 2).trans rfl, HS3_, HS4_⟩ (fun hHeld => ?_)
            clear hK K
            refine norm_ (a' := ?_) ?_ ?_
            rotate_left
            ·
             show Act.put _ (some 56) _ = _
             simp only [Act.put, List.setIfInBounds_toArray, List.set_cons_zero, List.set_cons_succ, i64_w, i32_w]
             rfl
            refine pure_ (i := 10) (N := some 46) (v := ?_) (a' := ?_) #[true, true, true, true, true, true, true, true, true, true, true, false, false, false, false] rfl rfl (any_of HT_.out (by kernel_rfl)) (fun _ _ _ h => h) (Or.inl ⟨by rfl, ?_⟩) ?_ ?_
            rotate_left
            ·
             intro w'
             go_simp
             with_reducible rfl
            rotate_left
            ·
             simp only [Act.put, List.setIfInBounds_toArray, List.set_cons_zero, List.set_cons_succ, i64_w, i32_w]
             rfl
            refine pure_ (i := 11) (N := some 57) (v := ?_) (a' := ?_) #[true, true, true, true, true, true, true, true, true, true, true, true, false, false, false] rfl rfl (any_of HT_.out (by kernel_rfl)) (fun _ _ _ h => h) (Or.inl ⟨by rfl, ?_⟩) ?_ ?_
            rotate_left
            ·
             intro w'
             go_simp
             with_reducible rfl
            rotate_left
            ·
             simp only [Act.put, List.setIfInBounds_toArray, List.set_cons_zero, List.set_cons_succ, i64_w, i32_w]
             rfl
            refine pure_ (i := 12) (N := some 58) (v := ?_) (a' := ?_) #[true, true, true, true, true, true, true, true, true, true, true, true, true, false, false] rfl rfl (any_of HT_.out (by kernel_rfl)) (fun _ _ _ h => h) (Or.inl ⟨by rfl, ?_⟩) ?_ ?_
            rotate_left
            ·
             intro w'
             go_simp
             with_reducible rfl
            rotate_left
            ·
             simp only [Act.put, List.setIfInBounds_toArray, List.set_cons_zero, List.set_cons_succ, i64_w, i32_w]
             rfl
            refine pure_ (i := 13) (N := some 17) (v := ?_) (a' := ?_) #[true, true, true, true, true, true, true, true, true, true, true, true, true, true, false] rfl rfl (any_of HT_.out (by kernel_rfl)) (fun _ _ _ h => h) (Or.inl ⟨by rfl, ?_⟩) ?_ ?_
            rotate_left
            ·
             intro w'
             go_simp
             with_reducible rfl
            rotate_left
            ·
             simp only [Act.put, List.setIfInBounds_toArray, List.set_cons_zero, List.set_cons_succ, i64_w, i32_w]
             rfl
            refine pure_ (i := 14) (N := some 18) (v := ?_) (a' := ?_) #[true, true, true, true, true, true, true, true, true, true, true, true, true, true, true] rfl rfl (any_of HT_.out (by kernel_rfl)) (fun _ _ _ h => h) (Or.inl ⟨by rfl, ?_⟩) ?_ ?_
            rotate_left
            ·
             intro w'
             go_simp
             with_reducible rfl
            rotate_left
            ·
             simp only [Act.put, List.setIfInBounds_toArray, List.set_cons_zero, List.set_cons_succ, i64_w, i32_w]
             rfl
            refine done_ (done_of HT_.out (by kernel_rfl)) ?_
            try go_wp2_with (first | ((with_reducible refine gate_callee (f := 108) rfl ?_); refine goesL_ (some 61) rfl rfl Try.func108 (by kernel_rfl) rfl #[.int .i64 t545, .int .i64 t546] rfl (by (try simp only [List.map_toArray, List.map_cons, List.map_nil]); first | done | rfl | (simp only [List.length_drop, List.length_take]; rfl)) ?_; (with_reducible refine (swashplateref01_ceil.calls t545 t546 t547 _ A29.out).mono ?_); rintro e w' ⟨rfl, ⟨nd, rfl⟩⟩; refine ⟨_, rfl, ?_⟩))
            go_roundg k2
            case measure => have := HK1.out; have := HK2.out; omega
            case rel => exact ⟨(wrap64 (x16_2 + 1)), (by first | rfl | (simp; done) | (simp [*]; done)), H', ⟨by have := HK1.out; have := HK2.out; omega⟩, ⟨by (with_reducible repeat (first | apply Kd.R_alloc | apply Kd.R_drewN | apply Kd.R_drew)); exact HO_13.out⟩, ⟨by (with_reducible repeat (first | apply Kd.R_alloc | apply Kd.R_drewN | apply Kd.R_drew)); exact HO_14.out⟩, ⟨bk_ BK533.out⟩, ⟨bk_ BK534.out⟩, ⟨bk_ BK535.out⟩, ⟨bl_ HB.out⟩⟩
          ·
           rw [if_neg c27] at H
           exact absurd H (by simp)
         ·
          rw [if_neg c26] at H
          exact absurd H (by simp)
        ·
         rw [if_neg c25] at H
         exact absurd H (by simp)
       ·
        rw [if_neg c24] at H
        have c24b0 : decide (x16_2 < (t540.length : Int)) = false := decide_eq_false c24
        clear c24
        have H' := Aside0.mk H
        clear H
        obtain ⟨Ao38, co38, eo38⟩ := Kd.R_slice HO_14.out
        subst eo38
        go_wp2
        go_roundg k2
        case measure => have := HK1.out; have := HK2.out; omega
        case rel => exact ⟨(wrap64 (x15_1 + 1)), (by first | rfl | (simp; done) | (simp [*]; done)), H', ⟨by have := HK1.out; have := HK2.out; omega⟩, ⟨by (with_reducible repeat (first | apply Kd.R_alloc | apply Kd.R_drewN | apply Kd.R_drew)); exact HO_13.out⟩, ⟨by (with_reducible repeat (first | apply Kd.R_alloc | apply Kd.R_drewN | apply Kd.R_drew)); exact HO_14.out⟩, ⟨bk_ BK533.out⟩, ⟨bk_ BK534.out⟩, ⟨bk_ BK535.out⟩, ⟨bl_ HB.out⟩⟩
    ·
     rw [if_neg c22] at H
     have c22b0 : decide (x15_1 < (t537.length : Int)) = false := decide_eq_false c22
     clear c22
     simp only [Option.some.injEq, Prod.mk.injEq] at H
     obtain ⟨rfl, rfl, rfl, rfl⟩ := H
     obtain ⟨Ao39, co39, eo39⟩ := Kd.R_slice HO_13.out
     subst eo39
     go_wp2
     refine bodyPost_ret (results_list (rs := [.tmp 8, .tmp 9, .tmp 10, .tmp 11]) rfl (by simp) (.tmp (.tmp (.tmp (.tmp .nil))))) rfl ?_
     exact ⟨by first | rfl | (simp [errW_none, errW_some] <;> rfl) | (simp [*, errW_none, errW_some] <;> rfl), bl_ HB.out⟩
 ·
  rw [if_neg c6] at H
  have c6b0 : (t536 == 0) = false := beq_eq_false_iff_ne.mpr c6
  have c6b1 : (t536 != 0) = true := bne_iff_ne.mpr c6
  simp only [Option.some.injEq, Prod.mk.injEq] at H
  obtain ⟨rfl, rfl, rfl, rfl⟩ := H
  go_enter Try.func47, Try.ntmps47
  go_wp2_with (first | ((with_reducible refine gate_dst (N := 4) rfl ?_); refine box_event ?hg (N := 4) ?hd (cs := #[.slice A0_0 l0_0.length c0_0, .slice A0_1 l0_1.length c0_1, .slice A0_2 l0_2.length c0_2]) (t := 25) ?hr ?_; (case hd => rfl); (case hg => rfl); (case hr => first | (go_simp; done) | (go_simp; rfl)); intro gb533 hg w40 hbox hb; have n0_ := Aside0.mk (below_step (bl_ HB.out) hb); have n1_ := Aside0.mk (hbox); have n2_ := Aside0.mk (szl_ hg HB.out); have n3_ := Aside0.mk (szl_ hg HB.out); clear HB; have HB := n0_; have BK533 := n1_; have GW533 := n2_; have GE533 := n3_; clear n0_ n1_ n2_ n3_ hb hbox hg) | ((with_reducible refine gate_dst (N := 5) rfl ?_); refine box_event ?hg (N := 5) ?hd (cs := #[.int .i64 a1_0, .int .i64 a1_1]) (t := 27) ?hr ?_; (case hd => rfl); (case hg => rfl); (case hr => first | (go_simp; done) | (go_simp; rfl)); intro gb534 hg w41 hbox hb; have n0_ := Aside0.mk (blk_below (bk_ BK533.out) hb); have n1_ := Aside0.mk (below_step (bl_ HB.out) hb); have n2_ := Aside0.mk (hbox); have n3_ := Aside0.mk (szl_ hg HB.out); have n4_ := Aside0.mk (szl_ hg HB.out); have n5_ := Aside0.mk (nel_ hg BK533.out); have n6_ := Aside0.mk (ner_ hg BK533.out); clear BK533 HB; have BK533 := n0_; have HB := n1_; have BK534 := n2_; have GW534 := n3_; have GE534 := n4_; have NB533_534 := n5_; have NB534_533 := n6_; clear n0_ n1_ n2_ n3_ n4_ n5_ n6_ hb hbox hg) | ((with_reducible refine gate_dst (N := 6) rfl ?_); refine box_event ?hg (N := 6) ?hd (cs := #[.int .i64 a2_0, .int .i64 a2_1]) (t := 27) ?hr ?_; (case hd => rfl); (case hg => rfl); (case hr => first | (go_simp; done) | (go_simp; rfl)); intro gb535 hg w42 hbox hb; have n0_ := Aside0.mk (blk_below (bk_ BK533.out) hb); have n1_ := Aside0.mk (blk_below (bk_ BK534.out) hb); have n2_ := Aside0.mk (below_step (bl_ HB.out) hb); have n3_ := Aside0.mk (hbox); have n4_ := Aside0.mk (szl_ hg HB.out); have n5_ := Aside0.mk (szl_ hg HB.out); have n6_ := Aside0.mk (nel_ hg BK533.out); have n7_ := Aside0.mk (ner_ hg BK533.out); have n8_ := Aside0.mk (nel_ hg BK534.out); have n9_ := Aside0.mk (ner_ hg BK534.out); clear BK533 BK534 HB; have BK533 := n0_; have BK534 := n1_; have HB := n2_; have BK535 := n3_; have GW535 := n4_; have GE535 := n5_; have NB533_535 := n6_; have NB535_533 := n7_; have NB534_535 := n8_; have NB535_534 := n9_; clear n0_ n1_ n2_ n3_ n4_ n5_ n6_ n7_ n8_ n9_ hb hbox hg; have hnb43 := NB533_534.out; have hnc43 := NB534_533.out; have hnb44 := NB533_535.out; have hnc44 := NB535_533.out; have hcz45_0 : w42.cell? ⟨gb533, 0, none⟩ = some (.slice A0_0 l0_0.length c0_0) := (blk_cell BK533.out 0).trans rfl; have hcz45_1 : w42.cell? ⟨gb533, 1, none⟩ = some (.slice A0_1 l0_1.length c0_1) := (blk_cell BK533.out 1).trans rfl; have hcz45_2 : w42.cell? ⟨gb533, 2, none⟩ = some (.slice A0_2 l0_2.length c0_2) := (blk_cell BK533.out 2).trans rfl; have hfz45_0 := blk_frozen BK533.out 0; have hfz45_1 := blk_frozen BK533.out 1; have hfz45_2 := blk_frozen BK533.out 2; have hnb46 := NB534_535.out; have hnc46 := NB535_534.out; have hcz47_0 : w42.cell? ⟨gb534, 0, none⟩ = some (.int .i64 a1_0) := (blk_cell BK534.out 0).trans rfl; have hcz47_1 : w42.cell? ⟨gb534, 1, none⟩ = some (.int .i64 a1_1) := (blk_cell BK534.out 1).trans rfl; have hfz47_0 := blk_frozen BK534.out 0; have hfz47_1 := blk_frozen BK534.out 1; have hcz48_0 : w42.cell? ⟨gb535, 0, none⟩ = some (.int .i64 a2_0) := (blk_cell BK535.out 0).trans rfl; have hcz48_1 : w42.cell? ⟨gb535, 1, none⟩ = some (.int .i64 a2_1) := (blk_cell BK535.out 1).trans rfl; have hfz48_0 := blk_frozen BK535.out 0; have hfz48_1 := blk_frozen BK535.out 1) | ((with_reducible refine gate_callee (f := 52) rfl ?_); refine goesL_ (some 22) rfl rfl Try.func52 (by kernel_rfl) rfl #[.agg #[.slice A0_0 l0_0.length c0_0, .slice A0_1 l0_1.length c0_1, .slice A0_2 l0_2.length c0_2], .agg #[.int .i64 a1_0, .int .i64 a1_1], .agg #[.int .i64 a2_0, .int .i64 a2_1]] rfl (by (try simp only [List.map_toArray, List.map_cons, List.map_nil]); first | done | rfl | (simp only [List.length_drop, List.length_take]; rfl)) ?_; (with_reducible refine (swashplateref01_CheckBound.calls k _ _ l0_0 _ _ l0_1 _ _ l0_2 a1_0 a1_1 a2_0 a2_1 t536 _ ?side1 ?side2 ?side3 ?side4 ?side5 ?side6 A5.out).mono ?_); (case side1 => exact cr_ (Kd.C_below HR0_0.out HB.out)); (case side2 => exact HC0_0.out); (case side3 => exact cr_ (Kd.C_below HR0_1.out HB.out)); (case side4 => exact HC0_1.out); (case side5 => exact cr_ (Kd.C_below HR0_2.out HB.out)); (case side6 => exact HC0_2.out); rintro e w49 ⟨rfl, hb⟩; refine ⟨_, rfl, ?_⟩; have n0_ := Aside0.mk (blk_below (bk_ BK533.out) hb); have n1_ := Aside0.mk (blk_below (bk_ BK534.out) hb); have n2_ := Aside0.mk (blk_below (bk_ BK535.out) hb); have n3_ := Aside0.mk (below_step (bl_ HB.out) hb); clear BK533 BK534 BK535 HB; have BK533 := n0_; have BK534 := n1_; have BK535 := n2_; have HB := n3_; clear n0_ n1_ n2_ n3_; (try clear hb); (try clear hb2); (try clear hk); (try clear hi)))
  refine bodyPost_ret (results_list (rs := [.tmp 8, .tmp 9, .tmp 10, .tmp 11]) rfl (by simp) (.tmp (.tmp (.tmp (.tmp .nil))))) rfl ?_
  exact ⟨by first | rfl | (simp [errW_none, errW_some] <;> rfl) | (simp [*, errW_none, errW_some] <;> rfl), bl_ HB.out⟩
end Go.Proofs.Yteodlmgmmpkpoaa.PS
end
section
namespace Go.Proofs.Yteodlmgmmpkpoaa.PS
open Go.RowKit Go.Proofs.YteodlmgmmpkpoaaW.PrintWords Go.Proofs.YteodlmgmmpkpoaaW.PrintLast Go.Proofs.YteodlmgmmpkpoaaW.PrintMore
set_option linter.unusedVariables false
def boundR (X Y : List Int) (V : List (List Int)) (a0 a1 b0 b1 : Int) : Int × Int × Int :=
  if pointsE X Y V a0 a1 b0 b1 = 0 then (flP (leastP (ptsL X Y V a0 a1 b0 b1)), ceP (mostP (ptsL X Y V a0 a1 b0 b1)), 0) else (0, 0, pointsE X Y V a0 a1 b0 b1)
theorem bound_total (X Y : List Int) (V : List (List Int)) (a0 a1 b0 b1 : Int) : spans_Bound.f X Y V a0 a1 b0 b1 = some (boundR X Y V a0 a1 b0 b1) := by
  unfold spans_Bound.f boundR
  rw [cp_total, Option.bind_some]
  by_cases he : pointsE X Y V a0 a1 b0 b1 = 0
  · have h := box2_of ((points_iff X Y V a0 a1 b0 b1).1 he)
    rw [if_pos he, if_pos he, ext_total h, Option.bind_some]
    dsimp only
    rw [good_fl (h.goodL h.least_in), Option.bind_some, good_up (h.goodL h.most_in), Option.bind_some]
  · rw [if_neg he, if_neg he]
def belowL (l : List Pt) (limit : Int) : Int × Int × Bool × Int :=
  match l.find? (fun p => decide (limit < ceP p)) with
  | some p => (p.x, p.y, false, 0)
  | none => (0, 0, true, 0)
theorem below_map (l : List Pt) (limit : Int) : belowL l limit = (match (l.map fun p => (p.x, p.y, ceP p)).find? (fun t => decide (limit < t.2.2)) with | some t => (t.1, t.2.1, false, 0) | none => (0, 0, true, 0)) := by
  unfold belowL
  rw [List.find?_map]
  rw [show ((fun t : Int × Int × Int => decide (limit < t.2.2)) ∘ fun p : Pt => (p.x, p.y, ceP p)) = (fun p => decide (limit < ceP p)) from rfl]
  cases l.find? (fun p => decide (limit < ceP p)) <;> rfl
def belowR (X Y : List Int) (V : List (List Int)) (a0 a1 b0 b1 limit : Int) : Int × Int × Bool × Int :=
  if pointsE X Y V a0 a1 b0 b1 = 0 then belowL (ptsL X Y V a0 a1 b0 b1) limit else (0, 0, false, pointsE X Y V a0 a1 b0 b1)
theorem below_total (X Y : List Int) (V : List (List Int)) (a0 a1 b0 b1 limit : Int) : spans_Below.f X Y V a0 a1 b0 b1 limit = some (belowR X Y V a0 a1 b0 b1 limit) := rfl
theorem below_cons (q : Pt) (l : List Pt) (limit : Int) : belowL (q :: l) limit = if limit < ceP q then (q.x, q.y, false, 0) else belowL l limit := by
  unfold belowL
  rw [List.find?_cons]
  by_cases h : limit < ceP q
  · rw [if_pos h, decide_eq_true h]
  · rw [if_neg h, decide_eq_false h]
theorem rbelow_loop {X Y : List Int} {V : List (List Int)} (ht : tableB X Y V = true) (limit : Int) (xs ys : List Int) (hx : ∀ i, i < xs.length → onB X (gI xs i) (gI xs i) = true) (hy : ∀ j, j < ys.length → onB Y (gI ys j) (gI ys j) = true)
    (hxl : xs.length ≤ 14) (hyl : ys.length ≤ 14) : ∀ k : Nat,
    (∀ (i : Nat), i ≤ xs.length → 20 * (xs.length - i) < k → swashplateref01_Below.l0 k limit xs ys i X Y V = some (belowL (gridL (xs.drop i) ys (ptRef X Y V)) limit)) ∧
    (∀ (i j : Nat), i < xs.length → j ≤ ys.length → 20 * (xs.length - (i + 1)) + (ys.length - j) + 1 < k → swashplateref01_Below.l1 k limit xs ys i j X Y V =
      some (belowL ((ys.drop j).map (ptRef X Y V (gI xs i)) ++ gridL (xs.drop (i + 1)) ys (ptRef X Y V)) limit))
  | 0 => ⟨fun _ _ h => absurd h (Nat.not_lt_zero _), fun _ _ _ _ h => absurd h (Nat.not_lt_zero _)⟩
  | k + 1 => by
    obtain ⟨ih0, ih1⟩ := rbelow_loop ht limit xs ys hx hy hxl hyl k
    refine ⟨fun i hi hk => ?_, fun i j hi hj hk => ?_⟩
    · simp only [swashplateref01_Below.l0]
      by_cases hlt : i < xs.length
      · rw [if_pos (by omega)]
        have := ih1 i 0 hlt (Nat.zero_le _) (by omega)
        rw [show ((0 : Nat) : Int) = 0 from rfl, List.drop_zero] at this
        rw [this, drop_step xs i hlt]
        rfl
      · rw [if_neg (by omega), List.drop_of_length_le (by omega)]
        rfl
    · simp only [swashplateref01_Below.l1]
      by_cases hlt : j < ys.length
      · rw [if_pos (by omega), if_pos (by omega), if_pos (by omega), if_pos (by omega), rd_nat, rd_nat, value_total ht (hx i hi) (hy j hlt), Option.bind_some]
        dsimp only
        have hg := good_ref ht (hx i hi) (hy j hlt)
        rw [good_rce hg, Option.bind_some, step64 j (by omega), drop_step ys j hlt, List.map_cons, List.cons_append, below_cons]
        by_cases hl : limit < ceP (ptRef X Y V (gI xs i) (gI ys j))
        · rw [if_pos hl, if_pos hl]; rfl
        · rw [if_neg hl, if_neg hl]
          exact ih1 i (j + 1) hi (by omega) (by omega)
      · rw [if_neg (by omega), List.drop_of_length_le (by omega), List.map_nil, List.nil_append, step64 i (by omega)]
        exact ih0 (i + 1) (by omega) (by omega)
theorem rbelow_total (X Y : List Int) (V : List (List Int)) (hx : X.length ≤ 15) (hy : Y.length ≤ 15) (hv : V.length ≤ 15) (hr : ∀ r ∈ V, r.length ≤ 15) (a0 a1 b0 b1 limit : Int) (k : Nat) (hk : 700 < k) :
    swashplateref01_Below.f k X Y V a0 a1 b0 b1 limit = some (belowR X Y V a0 a1 b0 b1 limit) := by
  unfold swashplateref01_Below.f belowR
  rw [cb_total X Y V hx hy hv hr a0 a1 b0 b1 k hk, Option.bind_some]
  by_cases he : pointsE X Y V a0 a1 b0 b1 = 0
  · have h := box2_of ((points_iff X Y V a0 a1 b0 b1).1 he)
    have t := tb_of h.tab
    have ex : ∀ i, i < (stopsL X a0 a1).length → onB X (gI (stopsL X a0 a1) i) (gI (stopsL X a0 a1) i) = true := fun i hi => (h.stx (gI_mem _ _ hi)).1
    have ey : ∀ j, j < (stopsL Y b0 b1).length → onB Y (gI (stopsL Y b0 b1) j) (gI (stopsL Y b0 b1) j) = true := fun j hj => (h.sty (gI_mem _ _ hj)).1
    rw [if_pos he, if_pos he, rcorners_total X t.ax.most a0 a1 k (by omega), Option.bind_some, rcorners_total Y t.ay.most b0 b1 k (by omega), Option.bind_some]
    have hl := (rbelow_loop h.tab limit (stopsL X a0 a1) (stopsL Y b0 b1) ex ey (stops_len t.ax.most a0 a1) (stops_len t.ay.most b0 b1) k).1 0 (Nat.zero_le _) (by have := stops_len t.ax.most a0 a1; omega)
    rw [List.drop_zero, show ((0 : Nat) : Int) = 0 from rfl] at hl
    rw [hl, below_map, below_map]
    unfold ptsL
    rw [grid_map (stopsL X a0 a1) (stopsL Y b0 b1) (ptAt X Y V) (ptRef X Y V) (fun p => (p.x, p.y, ceP p)) (fun x hx y hy => by
      rw [(pt_eq t (h.stx hx).1 (h.sty hy).1).2]; rfl)]
  · rw [if_neg he, if_neg he]
theorem foldHi_le (l : List Pt) (limit : Int) : ∀ a, foldHi l a ≤ limit ↔ a ≤ limit ∧ ∀ q ∈ l, ceP q ≤ limit := by
  induction l with
  | nil => intro a; simp [foldHi]
  | cons q l ih =>
    intro a
    rw [show foldHi (q :: l) a = foldHi l (max a (ceP q)) from rfl, ih]
    simp only [List.mem_cons, forall_eq_or_imp]
    constructor
    · rintro ⟨h1, h2⟩; exact ⟨by omega, by omega, h2⟩
    · rintro ⟨h1, h2, h3⟩; exact ⟨by omega, h3⟩
theorem below_bound {X Y : List Int} {V : List (List Int)} {a0 a1 b0 b1 : Int} (h : Box2 X Y V a0 a1 b0 b1) (limit : Int) : (belowL (ptsL X Y V a0 a1 b0 b1) limit).2.2.1 = decide (ceP (mostP (ptsL X Y V a0 a1 b0 b1)) ≤ limit) := by
  obtain ⟨r, hr⟩ := grid_cons X Y a0 a1 b0 b1 (ptAt X Y V)
  have hg : ∀ q ∈ ptsL X Y V a0 a1 b0 b1, 0 < q.d := fun q hq => (h.goodL hq).1
  unfold ptsL at *
  rw [hr] at hg ⊢
  rw [ce_mostP _ _ hg]
  unfold belowL
  cases hf : (ptAt X Y V a0 b0 :: r).find? (fun p => decide (limit < ceP p)) with
  | none =>
    rw [List.find?_eq_none] at hf
    symm
    rw [decide_eq_true_eq, foldHi_le]
    exact ⟨by have := hf _ List.mem_cons_self; simpa using this, fun q hq => by have := hf _ hq; simpa using this⟩
  | some p =>
    have h1 := List.find?_some hf
    have h2 := List.mem_of_find?_eq_some hf
    symm
    rw [decide_eq_false_iff_not, foldHi_le]
    intro hc
    have := hc.2 p h2
    simp at h1
    omega
end Go.Proofs.Yteodlmgmmpkpoaa.PS
end
section
namespace Go.Proofs.Yteodlmgmmpkpoaa.PS
open Go.RowKit Go.Shelf Go.Proofs.YteodlmgmmpkpoaaW.PrintWords Go.Proofs.YteodlmgmmpkpoaaW.PrintLast Go.Proofs.YteodlmgmmpkpoaaW.PrintMore
set_option linter.unusedVariables false
set_option linter.unusedSimpArgs false
attribute [local go_sem] Oper.semAt_some
theorem results46 (tmps : Array Value) (w : World) (g8 g9 g10 g11 : Nat) (r1 r2 r4 : Int) (r3 : Bool)
    (h8 : tmps.getD 8 undef = .pointer (some ⟨g8, 0, none⟩)) (h9 : tmps.getD 9 undef = .pointer (some ⟨g9, 0, none⟩)) (h10 : tmps.getD 10 undef = .pointer (some ⟨g10, 0, none⟩)) (h11 : tmps.getD 11 undef = .pointer (some ⟨g11, 0, none⟩))
    (c8 : w.heap[g8]? = some (.cells #[.int .i64 r1] 3 (0, 0))) (c9 : w.heap[g9]? = some (.cells #[.int .i64 r2] 3 (0, 0))) (c10 : w.heap[g10]? = some (.cells #[.bool r3] 4 (0, 0))) (c11 : w.heap[g11]? = some (.cells #[.int .i64 r4] 30 (0, 0))) :
    (results Try.f46 tmps).run Try.prog w = .ok (.tuple #[.int .i64 r1, .int .i64 r2, .bool r3, .int .i64 r4]) w := by
  have p8 : tmps[8]?.getD undef = .pointer (some ⟨g8, 0, none⟩) := by simpa using h8
  have p9 : tmps[9]?.getD undef = .pointer (some ⟨g9, 0, none⟩) := by simpa using h9
  have p10 : tmps[10]?.getD undef = .pointer (some ⟨g10, 0, none⟩) := by simpa using h10
  have p11 : tmps[11]?.getD undef = .pointer (some ⟨g11, 0, none⟩) := by simpa using h11
  have q8 := (blk_cell c8 0).trans rfl
  have q9 := (blk_cell c9 0).trans rfl
  have q10 := (blk_cell c10 0).trans rfl
  have q11 := (blk_cell c11 0).trans rfl
  simp [results, Try.results46, asAddr, p8, p9, p10, p11, go_sem, q8, q9, q10, q11]
theorem below_none {l : List GP} {limit : Int} (h : ∀ q ∈ l, ceP q.1 ≤ limit) : belowL (vals l) limit = (0, 0, true, 0) := by
  induction l with
  | nil => rfl
  | cons a l ih =>
    rw [show vals (a :: l) = a.1 :: vals l from rfl, below_cons, if_neg (by have := h a List.mem_cons_self; omega)]
    exact ih fun q hq => h q (List.mem_cons_of_mem _ hq)
theorem below_hit {p0 l : List GP} {q : GP} {limit : Int} (hp : p0 ++ [q] <+: l) (h : ∀ p ∈ p0, ceP p.1 ≤ limit) (hq : limit < ceP q.1) : belowL (vals l) limit = (q.1.x, q.1.y, false, 0) := by
  obtain ⟨r, rfl⟩ := hp
  induction p0 with
  | nil => rw [show vals ([] ++ [q] ++ r) = q.1 :: vals r from rfl, below_cons, if_pos hq]
  | cons a l ih =>
    rw [show vals (a :: l ++ [q] ++ r) = a.1 :: vals (l ++ [q] ++ r) from rfl, below_cons, if_neg (by have := h a List.mem_cons_self; omega)]
    exact ih fun p hp => h p (List.mem_cons_of_mem _ hp)
theorem below_eres {X Y : List Int} {V : List (List Int)} {a0 a1 b0 b1 : Int} (h : Box2 X Y V a0 a1 b0 b1) (limit : Int) :
    spans_Below.f X Y V a0 a1 b0 b1 limit = some (belowL (vals (gridG (stopsL X a0 a1) (stopsL Y b0 b1) (fG X Y V))) limit) := by
  rw [below_total]
  unfold belowR
  rw [if_pos ((points_iff X Y V a0 a1 b0 b1).2 (box2_points h)), pts_vals h.tab h.onx h.ony (okS_le h.okx) (okS_le h.oky)]
def BelI (w : World) (s3 s4 s5 s6 s7 : Nat) (limit : Int) (pre : List GP) (W : World) : Prop :=
  (W.heap[s3]? = some (.cells #[.int .i64 limit] 3 (0, 0)) ∧ W.heap[s4]? = some (.cells #[.int .i64 0] 3 (0, 0)) ∧ W.heap[s5]? = some (.cells #[.int .i64 0] 3 (0, 0)) ∧ W.heap[s6]? = some (.cells #[.bool false] 4 (0, 0)) ∧ W.heap[s7]? = some (.cells #[.int .i64 0] 30 (0, 0))) ∧
    Below w.heap.size w W ∧ ∀ q ∈ pre, ceP q.1 ≤ limit
def BelX (w : World) (s4 s5 s6 s7 : Nat) (limit : Int) (c : Code) (pre : List GP) (W : World) : Prop :=
  c = .ret ∧ ∃ (p0 : List GP) (q : GP), pre = p0 ++ [q] ∧ (∀ p ∈ p0, ceP p.1 ≤ limit) ∧ limit < ceP q.1 ∧
    (W.heap[s4]? = some (.cells #[.int .i64 q.1.x] 3 (0, 0)) ∧ W.heap[s5]? = some (.cells #[.int .i64 q.1.y] 3 (0, 0)) ∧ W.heap[s6]? = some (.cells #[.bool false] 4 (0, 0)) ∧ W.heap[s7]? = some (.cells #[.int .i64 0] 30 (0, 0))) ∧ Below w.heap.size w W
theorem belI_own (w W0 : World) (s3 s4 s5 s6 s7 : Nat) (limit : Int) (hb : w.heap.size ≤ W0.heap.size) : OwnFrom W0.heap.size (BelI w s3 s4 s5 s6 s7 limit) := fun s A B row hs hg hr => by
  obtain ⟨⟨i3, i4, i5, i6, i7⟩, hB, hp⟩ := hs
  have hr2 : ∀ r, row = some r → ∃ o, A.heap[r]? = some o ∧ o.isCells = false := fun r e => (hr r e).2
  exact ⟨⟨cells_own s3 3 (fun (_ : Unit) => #[.int .i64 limit]) () A B row i3 hg hr2, cells_own s4 3 (fun (_ : Unit) => #[.int .i64 0]) () A B row i4 hg hr2, cells_own s5 3 (fun (_ : Unit) => #[.int .i64 0]) () A B row i5 hg hr2, cells_own s6 4 (fun (_ : Unit) => #[.bool false]) () A B row i6 hg hr2, cells_own s7 30 (fun (_ : Unit) => #[.int .i64 0]) () A B row i7 hg hr2⟩,
    ownFrom_below (β := Unit) (Nat.le_refl _) hb () A B row hB hg hr, hp⟩
theorem belX_own (w W0 : World) (s4 s5 s6 s7 : Nat) (limit : Int) (hb : w.heap.size ≤ W0.heap.size) (c : Code) : OwnFrom W0.heap.size (BelX w s4 s5 s6 s7 limit c) := fun s A B row hs hg hr => by
  obtain ⟨hc, p0, q, h1, h2, h3, ⟨i4, i5, i6, i7⟩, hB⟩ := hs
  have hr2 : ∀ r, row = some r → ∃ o, A.heap[r]? = some o ∧ o.isCells = false := fun r e => (hr r e).2
  exact ⟨hc, p0, q, h1, h2, h3, ⟨cells_own s4 3 (fun (_ : Unit) => #[.int .i64 q.1.x]) () A B row i4 hg hr2, cells_own s5 3 (fun (_ : Unit) => #[.int .i64 q.1.y]) () A B row i5 hg hr2, cells_own s6 4 (fun (_ : Unit) => #[.bool false]) () A B row i6 hg hr2, cells_own s7 30 (fun (_ : Unit) => #[.int .i64 0]) () A B row i7 hg hr2⟩,
    ownFrom_below (β := Unit) (Nat.le_refl _) hb () A B row hB hg hr⟩
set_option maxRecDepth 100000 in
set_option maxHeartbeats 1000000 in
theorem below_in (n : Nat) (hn : 6 ≤ n) (A0 : Option Addr) (c0 : Nat) (A1 : Option Addr) (c1 : Nat) (A2 : Option Addr) (c2 : Nat) (X Y : List Int) (V : List (List Int)) (a0 a1 b0 b1 limit : Int)
    (hbox : Box2 X Y V a0 a1 b0 b1) (w : World)
    (hr0 : Kd.C (Kd.int .i64) w A0 X.length X) (hc0 : X.length ≤ c0) (hr1 : Kd.C (Kd.int .i64) w A1 Y.length Y) (hc1 : Y.length ≤ c1) (hr2 : Kd.C (Kd.slice 3 (Kd.int .i64)) w A2 V.length V) (hc2 : V.length ≤ c2)
    (r1 r2 r4 : Int) (r3 : Bool) (hres : spans_Below.f X Y V a0 a1 b0 b1 limit = some (r1, r2, r3, r4)) :
    CallsIn Fence.wide n Try.prog 46 #[.agg #[.slice A0 X.length c0, .slice A1 Y.length c1, .slice A2 V.length c2], .agg #[.int .i64 a0, .int .i64 a1], .agg #[.int .i64 b0, .int .i64 b1], .int .i64 limit] w fun e w' =>
      e = .returned (.tuple #[.int .i64 r1, .int .i64 r2, .bool r3, .int .i64 r4]) ∧ Below w.heap.size w w' := by
  have h1 : 1 ≤ n := by omega
  have HE : Aside0 (spans_checkPoints.f X Y V a0 a1 b0 b1 = some 0) := ⟨by rw [cp_total, (points_iff X Y V a0 a1 b0 b1).2 (box2_points hbox)]⟩
  have HR0 := Aside0.mk hr0
  have HR1 := Aside0.mk hr1
  have HR2 := Aside0.mk hr2
  have HX := Aside0.mk hbox
  have HRES := Aside0.mk hres
  clear hr0 hr1 hr2 hbox hres
  refine callsIn_of_wp_marks Try.func46 rfl trivial ?_ rfl
  simp only [Try.ntmps46, List.size_toArray, List.length_cons, List.length_nil, Nat.reduceAdd, Nat.reduceSub, Array.replicate_succ, Array.replicate_zero, List.push_toArray, List.append_toArray, List.nil_append, List.cons_append]
  gi_wp2
  obtain ⟨W1, hW⟩ : ∃ W, w.alloc (.cells #[.slice A0 X.length c0, .slice A1 Y.length c1, .slice A2 V.length c2] 25) = W := ⟨_, rfl⟩
  have hz1 : W1.heap.size = w.heap.size + 1 := by rw [← hW, World.size_alloc]
  have k0 : W1.heap[w.heap.size]? = some (.cells #[.slice A0 X.length c0, .slice A1 Y.length c1, .slice A2 V.length c2] 25 (0, 0)) := by rw [← hW]; exact blk_new _ _
  have hb : Below w.heap.size w W1 := by rw [← hW]; exact below_alloc (Below.refl _ _) _
  rw [hW]
  clear hW
  obtain ⟨W2, hW⟩ : ∃ W, W1.alloc (.cells #[.int .i64 a0, .int .i64 a1] 27) = W := ⟨_, rfl⟩
  have hz2 : W2.heap.size = w.heap.size + 1 + 1 := by rw [← hW, World.size_alloc, hz1]
  have k1 : W2.heap[w.heap.size + 1]? = some (.cells #[.int .i64 a0, .int .i64 a1] 27 (0, 0)) := by rw [← hW, ← hz1]; exact blk_new _ _
  replace k0 : W2.heap[w.heap.size]? = some (.cells #[.slice A0 X.length c0, .slice A1 Y.length c1, .slice A2 V.length c2] 25 (0, 0)) := by rw [← hW]; exact blk_alloc k0 _
  replace hb : Below w.heap.size w W2 := by rw [← hW]; exact below_alloc hb _
  rw [hW]
  clear hW hz1
  obtain ⟨W3, hW⟩ : ∃ W, W2.alloc (.cells #[.int .i64 b0, .int .i64 b1] 27) = W := ⟨_, rfl⟩
  have hz3 : W3.heap.size = w.heap.size + 1 + 1 + 1 := by rw [← hW, World.size_alloc, hz2]
  have k2 : W3.heap[w.heap.size + 1 + 1]? = some (.cells #[.int .i64 b0, .int .i64 b1] 27 (0, 0)) := by rw [← hW, ← hz2]; exact blk_new _ _
  replace k0 : W3.heap[w.heap.size]? = some (.cells #[.slice A0 X.length c0, .slice A1 Y.length c1, .slice A2 V.length c2] 25 (0, 0)) := by rw [← hW]; exact blk_alloc k0 _
  replace k1 : W3.heap[w.heap.size + 1]? = some (.cells #[.int .i64 a0, .int .i64 a1] 27 (0, 0)) := by rw [← hW]; exact blk_alloc k1 _
  replace hb : Below w.heap.size w W3 := by rw [← hW]; exact below_alloc hb _
  rw [hW]
  clear hW hz2
  obtain ⟨W4, hW⟩ : ∃ W, W3.alloc (.cells #[.int .i64 limit] 3) = W := ⟨_, rfl⟩
  have hz4 : W4.heap.size = w.heap.size + 1 + 1 + 1 + 1 := by rw [← hW, World.size_alloc, hz3]
  have k3 : W4.heap[w.heap.size + 1 + 1 + 1]? = some (.cells #[.int .i64 limit] 3 (0, 0)) := by rw [← hW, ← hz3]; exact blk_new _ _
  replace k0 : W4.heap[w.heap.size]? = some (.cells #[.slice A0 X.length c0, .slice A1 Y.length c1, .slice A2 V.length c2] 25 (0, 0)) := by rw [← hW]; exact blk_alloc k0 _
  replace k1 : W4.heap[w.heap.size + 1]? = some (.cells #[.int .i64 a0, .int .i64 a1] 27 (0, 0)) := by rw [← hW]; exact blk_alloc k1 _
  replace k2 : W4.heap[w.heap.size + 1 + 1]? = some (.cells #[.int .i64 b0, .int .i64 b1] 27 (0, 0)) := by rw [← hW]; exact blk_alloc k2 _
  replace hb : Below w.heap.size w W4 := by rw [← hW]; exact below_alloc hb _
  rw [hW]
  clear hW hz3
  obtain ⟨W5, hW⟩ : ∃ W, W4.alloc (.cells #[.int .i64 0] 3) = W := ⟨_, rfl⟩
  have hz5 : W5.heap.size = w.heap.size + 1 + 1 + 1 + 1 + 1 := by rw [← hW, World.size_alloc, hz4]
  have k4 : W5.heap[w.heap.size + 1 + 1 + 1 + 1]? = some (.cells #[.int .i64 0] 3 (0, 0)) := by rw [← hW, ← hz4]; exact blk_new _ _
  replace k0 : W5.heap[w.heap.size]? = some (.cells #[.slice A0 X.length c0, .slice A1 Y.length c1, .slice A2 V.length c2] 25 (0, 0)) := by rw [← hW]; exact blk_alloc k0 _
  replace k1 : W5.heap[w.heap.size + 1]? = some (.cells #[.int .i64 a0, .int .i64 a1] 27 (0, 0)) := by rw [← hW]; exact blk_alloc k1 _
  replace k2 : W5.heap[w.heap.size + 1 + 1]? = some (.cells #[.int .i64 b0, .int .i64 b1] 27 (0, 0)) := by rw [← hW]; exact blk_alloc k2 _
  replace k3 : W5.heap[w.heap.size + 1 + 1 + 1]? = some (.cells #[.int .i64 limit] 3 (0, 0)) := by rw [← hW]; exact blk_alloc k3 _
  replace hb : Below w.heap.size w W5 := by rw [← hW]; exact below_alloc hb _
  rw [hW]
  clear hW hz4
  obtain ⟨W6, hW⟩ : ∃ W, W5.alloc (.cells #[.int .i64 0] 3) = W := ⟨_, rfl⟩
  have hz6 : W6.heap.size = w.heap.size + 1 + 1 + 1 + 1 + 1 + 1 := by rw [← hW, World.size_alloc, hz5]
  have k5 : W6.heap[w.heap.size + 1 + 1 + 1 + 1 + 1]? = some (.cells #[.int .i64 0] 3 (0, 0)) := by rw [← hW, ← hz5]; exact blk_new _ _
  replace k0 : W6.heap[w.heap.size]? = some (.cells #[.slice A0 X.length c0, .slice A1 Y.length c1, .slice A2 V.length c2] 25 (0, 0)) := by rw [← hW]; exact blk_alloc k0 _
  replace k1 : W6.heap[w.heap.size + 1]? = some (.cells #[.int .i64 a0, .int .i64 a1] 27 (0, 0)) := by rw [← hW]; exact blk_alloc k1 _
  replace k2 : W6.heap[w.heap.size + 1 + 1]? = some (.cells #[.int .i64 b0, .int .i64 b1] 27 (0, 0)) := by rw [← hW]; exact blk_alloc k2 _
  replace k3 : W6.heap[w.heap.size + 1 + 1 + 1]? = some (.cells #[.int .i64 limit] 3 (0, 0)) := by rw [← hW]; exact blk_alloc k3 _
  replace k4 : W6.heap[w.heap.size + 1 + 1 + 1 + 1]? = some (.cells #[.int .i64 0] 3 (0, 0)) := by rw [← hW]; exact blk_alloc k4 _
  replace hb : Below w.heap.size w W6 := by rw [← hW]; exact below_alloc hb _
  rw [hW]
  clear hW hz5
  obtain ⟨W7, hW⟩ : ∃ W, W6.alloc (.cells #[.bool false] 4) = W := ⟨_, rfl⟩
  have hz7 : W7.heap.size = w.heap.size + 1 + 1 + 1 + 1 + 1 + 1 + 1 := by rw [← hW, World.size_alloc, hz6]
  have k6 : W7.heap[w.heap.size + 1 + 1 + 1 + 1 + 1 + 1]? = some (.cells #[.bool false] 4 (0, 0)) := by rw [← hW, ← hz6]; exact blk_new _ _
  replace k0 : W7.heap[w.heap.size]? = some (.cells #[.slice A0 X.length c0, .slice A1 Y.length c1, .slice A2 V.length c2] 25 (0, 0)) := by rw [← hW]; exact blk_alloc k0 _
  replace k1 : W7.heap[w.heap.size + 1]? = some (.cells #[.int .i64 a0, .int .i64 a1] 27 (0, 0)) := by rw [← hW]; exact blk_alloc k1 _
  replace k2 : W7.heap[w.heap.size + 1 + 1]? = some (.cells #[.int .i64 b0, .int .i64 b1] 27 (0, 0)) := by rw [← hW]; exact blk_alloc k2 _
  replace k3 : W7.heap[w.heap.size + 1 + 1 + 1]? = some (.cells #[.int .i64 limit] 3 (0, 0)) := by rw [← hW]; exact blk_alloc k3 _
  replace k4 : W7.heap[w.heap.size + 1 + 1 + 1 + 1]? = some (.cells #[.int .i64 0] 3 (0, 0)) := by rw [← hW]; exact blk_alloc k4 _
  replace k5 : W7.heap[w.heap.size + 1 + 1 + 1 + 1 + 1]? = some (.cells #[.int .i64 0] 3 (0, 0)) := by rw [← hW]; exact blk_alloc k5 _
  replace hb : Below w.heap.size w W7 := by rw [← hW]; exact below_alloc hb _
  rw [hW]
  clear hW hz6
  obtain ⟨W8, hW⟩ : ∃ W, W7.alloc (.cells #[.int .i64 0] 30) = W := ⟨_, rfl⟩
  have hz8 : W8.heap.size = w.heap.size + 1 + 1 + 1 + 1 + 1 + 1 + 1 + 1 := by rw [← hW, World.size_alloc, hz7]
  have k7 : W8.heap[w.heap.size + 1 + 1 + 1 + 1 + 1 + 1 + 1]? = some (.cells #[.int .i64 0] 30 (0, 0)) := by rw [← hW, ← hz7]; exact blk_new _ _
  replace k0 : W8.heap[w.heap.size]? = some (.cells #[.slice A0 X.length c0, .slice A1 Y.length c1, .slice A2 V.length c2] 25 (0, 0)) := by rw [← hW]; exact blk_alloc k0 _
  replace k1 : W8.heap[w.heap.size + 1]? = some (.cells #[.int .i64 a0, .int .i64 a1] 27 (0, 0)) := by rw [← hW]; exact blk_alloc k1 _
  replace k2 : W8.heap[w.heap.size + 1 + 1]? = some (.cells #[.int .i64 b0, .int .i64 b1] 27 (0, 0)) := by rw [← hW]; exact blk_alloc k2 _
  replace k3 : W8.heap[w.heap.size + 1 + 1 + 1]? = some (.cells #[.int .i64 limit] 3 (0, 0)) := by rw [← hW]; exact blk_alloc k3 _
  replace k4 : W8.heap[w.heap.size + 1 + 1 + 1 + 1]? = some (.cells #[.int .i64 0] 3 (0, 0)) := by rw [← hW]; exact blk_alloc k4 _
  replace k5 : W8.heap[w.heap.size + 1 + 1 + 1 + 1 + 1]? = some (.cells #[.int .i64 0] 3 (0, 0)) := by rw [← hW]; exact blk_alloc k5 _
  replace k6 : W8.heap[w.heap.size + 1 + 1 + 1 + 1 + 1 + 1]? = some (.cells #[.bool false] 4 (0, 0)) := by rw [← hW]; exact blk_alloc k6 _
  replace hb : Below w.heap.size w W8 := by rw [← hW]; exact below_alloc hb _
  rw [hW]
  clear hW hz7
  obtain ⟨s1, e1⟩ : ∃ k, w.heap.size + 1 = k := ⟨_, rfl⟩
  obtain ⟨s2, e2⟩ : ∃ k, s1 + 1 = k := ⟨_, rfl⟩
  obtain ⟨s3, e3⟩ : ∃ k, s2 + 1 = k := ⟨_, rfl⟩
  obtain ⟨s4, e4⟩ : ∃ k, s3 + 1 = k := ⟨_, rfl⟩
  obtain ⟨s5, e5⟩ : ∃ k, s4 + 1 = k := ⟨_, rfl⟩
  obtain ⟨s6, e6⟩ : ∃ k, s5 + 1 = k := ⟨_, rfl⟩
  obtain ⟨s7, e7⟩ : ∃ k, s6 + 1 = k := ⟨_, rfl⟩
  simp only [e1, e2, e3, e4, e5, e6, e7] at k0 k1 k2 k3 k4 k5 k6 k7 hz8 ⊢
  have hord : w.heap.size < s1 ∧ s1 < s2 ∧ s2 < s3 ∧ s3 < s4 ∧ s4 < s5 ∧ s5 < s6 ∧ s6 < s7 ∧ s7 < W8.heap.size := by omega
  have HO := Aside0.mk hord
  clear e1 e2 e3 e4 e5 e6 e7 hz8 hord
  refine ⟨trivial, ?_⟩
  gi_at_call 88
  refine (callsIn_wide.2 (spans_checkPoints.calls A0 c0 X A1 c1 Y A2 c2 V a0 a1 b0 b1 0 W8 (Kd.C_below HR0.out hb) hc0 (Kd.C_below HR1.out hb) hc1 (Kd.C_below HR2.out hb) hc2 HE.out)).mono ?_
  rintro e w1 ⟨rfl, hb1⟩
  have K0 := Aside0.mk (blk_below k0 hb1)
  have K1 := Aside0.mk (blk_below k1 hb1)
  have K2 := Aside0.mk (blk_below k2 hb1)
  have K3 := Aside0.mk (blk_below k3 hb1)
  have K4 := Aside0.mk (blk_below k4 hb1)
  have K5 := Aside0.mk (blk_below k5 hb1)
  have K6 := Aside0.mk (blk_below k6 hb1)
  have K7 := Aside0.mk (blk_below k7 hb1)
  have HB1 := Aside0.mk (below_step hb hb1)
  have HO1 : Aside0 (s7 < w1.heap.size) := ⟨by have := HO.out; have := hb1.size; omega⟩
  clear k0 k1 k2 k3 k4 k5 k6 k7 hb hb1
  have q00 := (blk_cell K0.out 0).trans rfl
  have q01 := (blk_cell K0.out 1).trans rfl
  have q02 := (blk_cell K0.out 2).trans rfl
  have q10 := (blk_cell K1.out 0).trans rfl
  have q11 := (blk_cell K1.out 1).trans rfl
  have q20 := (blk_cell K2.out 0).trans rfl
  have q21 := (blk_cell K2.out 1).trans rfl
  gi_wp2_with (refine ⟨trivial, ?_⟩; gi_at_call 118; refine (corners_in (n - 1) _ _ _ _ _ _ _ _ _ _ _ _ _ _).mono ?_; rintro e w' ⟨rfl, rfl⟩)
  clear q00 q01 q02 q10 q11 q20 q21
  obtain ⟨W0, hW⟩ : ∃ W, ((w1.alloc (.cells #[.slice A0 X.length c0, .slice A1 Y.length c1, .slice A2 V.length c2] 25)).alloc (.cells #[.int .i64 a0, .int .i64 a1] 27)).alloc (.cells #[.int .i64 b0, .int .i64 b1] 27) = W := ⟨_, rfl⟩
  have hz0 : W0.heap.size = w1.heap.size + 1 + 1 + 1 := by rw [← hW, World.size_alloc, World.size_alloc, World.size_alloc]
  have kT : W0.heap[w1.heap.size]? = some (.cells #[.slice A0 X.length c0, .slice A1 Y.length c1, .slice A2 V.length c2] 25 (0, 0)) := by rw [← hW]; exact blk_alloc (blk_alloc (blk_new _ _) _) _
  have kX : W0.heap[w1.heap.size + 1]? = some (.cells #[.int .i64 a0, .int .i64 a1] 27 (0, 0)) := by rw [← hW]; have := blk_alloc (blk_new (w1.alloc (.cells #[.slice A0 X.length c0, .slice A1 Y.length c1, .slice A2 V.length c2] 25)) (.cells #[.int .i64 a0, .int .i64 a1] 27)) (.cells #[.int .i64 b0, .int .i64 b1] 27); rwa [World.size_alloc] at this
  have kY : W0.heap[w1.heap.size + 1 + 1]? = some (.cells #[.int .i64 b0, .int .i64 b1] 27 (0, 0)) := by rw [← hW]; have := blk_new ((w1.alloc (.cells #[.slice A0 X.length c0, .slice A1 Y.length c1, .slice A2 V.length c2] 25)).alloc (.cells #[.int .i64 a0, .int .i64 a1] 27)) (.cells #[.int .i64 b0, .int .i64 b1] 27); rwa [World.size_alloc, World.size_alloc] at this
  have L3 : Aside0 (W0.heap[s3]? = some (.cells #[.int .i64 limit] 3 (0, 0))) := ⟨by rw [← hW]; exact blk_alloc (blk_alloc (blk_alloc K3.out _) _) _⟩
  have L4 : Aside0 (W0.heap[s4]? = some (.cells #[.int .i64 0] 3 (0, 0))) := ⟨by rw [← hW]; exact blk_alloc (blk_alloc (blk_alloc K4.out _) _) _⟩
  have L5 : Aside0 (W0.heap[s5]? = some (.cells #[.int .i64 0] 3 (0, 0))) := ⟨by rw [← hW]; exact blk_alloc (blk_alloc (blk_alloc K5.out _) _) _⟩
  have L6 : Aside0 (W0.heap[s6]? = some (.cells #[.bool false] 4 (0, 0))) := ⟨by rw [← hW]; exact blk_alloc (blk_alloc (blk_alloc K6.out _) _) _⟩
  have L7 : Aside0 (W0.heap[s7]? = some (.cells #[.int .i64 0] 30 (0, 0))) := ⟨by rw [← hW]; exact blk_alloc (blk_alloc (blk_alloc K7.out _) _) _⟩
  have hb : Below w.heap.size w W0 := by rw [← hW]; exact below_alloc (below_alloc (below_alloc HB1.out _) _) _
  rw [hW]
  obtain ⟨tb, et⟩ : ∃ k, w1.heap.size = k := ⟨_, rfl⟩
  obtain ⟨xb, ex⟩ : ∃ k, tb + 1 = k := ⟨_, rfl⟩
  obtain ⟨yb, ey⟩ : ∃ k, xb + 1 = k := ⟨_, rfl⟩
  simp only [et, ex, ey] at kT kX kY hz0 ⊢
  have hord : w.heap.size < s1 ∧ s1 < s2 ∧ s2 < s3 ∧ s3 < s4 ∧ s4 < s5 ∧ s5 < s6 ∧ s6 < s7 ∧ s7 < tb ∧ tb < xb ∧ xb < yb ∧ yb < W0.heap.size := by have := HO.out; have := HO1.out; omega
  clear HO HO1
  have HO := Aside0.mk hord
  have HKT := Aside0.mk kT
  have HKX := Aside0.mk kX
  have HKY := Aside0.mk kY
  have HB := Aside0.mk hb
  clear hW et ex ey hz0 hord kT kX kY hb K0 K1 K2 K3 K4 K5 K6 K7 HB1
  have hx := HX.out
  have hord := HO.out
  refine wpIn_rangeFunc_ownH (F := Fence.wide) rfl h1 (gf := 170) (lb := #[.pointer (some ⟨tb, 0, none⟩), .pointer (some ⟨xb, 0, none⟩), .pointer (some ⟨yb, 0, none⟩)]) rfl trivial (enters_of Try.func170 (by kernel_rfl) rfl)
    (encs := encP) (Kp := KpS w.heap.size (fun k => k = s4 ∨ k = s5 ∨ k = s6 ∨ k = s7)) (S := fun ys => ys = gridG (stopsL X a0 a1) (stopsL Y b0 b1) (fG X Y V)) (Sp := fun pre => pre <+: gridG (stopsL X a0 a1) (stopsL Y b0 b1) (fG X Y V)) (N := (stopsL X a0 a1).length * (stopsL Y b0 b1).length) (w0 := W0)
    (fun l J Jx W hW hJ hJx hY hJ0 => corners1_in (n - 1) (by omega) l tb xb yb _ A0 c0 A1 c1 A2 c2 X Y V a0 a1 b0 b1 hx.tab hx.onx hx.ony (okS_le hx.okx) (okS_le hx.oky) w HR0.out hc0 HR1.out hc1 HR2.out hc2 J Jx hY W hJ (HB.out.trans (hW.mono HB.out.size)) (blk_below HKT.out hW) (blk_below HKX.out hW) (blk_below HKY.out hW)
      (by omega) (by omega) (by omega) (fun k hk => by have := hW.size; omega) hJ0)
    KpS.trans (KpS.put HB.out.size) (Below.refl _ _) (fun _ => rfl)
    (BelI w s3 s4 s5 s6 s7 limit) (BelX w s4 s5 s6 s7 limit)
    (belI_own w W0 s3 s4 s5 s6 s7 limit HB.out.size)
    (fun c => belX_own w W0 s4 s5 s6 s7 limit HB.out.size c)
    ⟨⟨L3.out, L4.out, L5.out, L6.out, L7.out⟩, HB.out, fun q hq => by cases hq⟩
    (fun x a' W => ∃ Bx, s7 < Bx ∧ W.heap[Bx]? = some (.cells (cellsP x.1) 133 (0, 0)) ∧ a' = { tmps := #[.agg #[.slice A0 X.length c0, .slice A1 Y.length c1, .slice A2 V.length c2], .agg #[.int .i64 a0, .int .i64 a1], .agg #[.int .i64 b0, .int .i64 b1], .int .i64 limit, .pointer (some ⟨w.heap.size, 0, none⟩), .pointer (some ⟨s1, 0, none⟩), .pointer (some ⟨s2, 0, none⟩), .pointer (some ⟨s3, 0, none⟩), .pointer (some ⟨s4, 0, none⟩), .pointer (some ⟨s5, 0, none⟩), .pointer (some ⟨s6, 0, none⟩), .pointer (some ⟨s7, 0, none⟩), .int .i64 0, .pointer (some ⟨Bx, 0, none⟩), .agg #[.slice A0 X.length c0, .slice A1 Y.length c1, .slice A2 V.length c2], .agg #[.int .i64 a0, .int .i64 a1], .agg #[.int .i64 b0, .int .i64 b1], .int .i64 0, .int .i64 0, .bool false, undef, .agg #[.slice A0 X.length c0, .slice A1 Y.length c1, .slice A2 V.length c2], .agg #[.int .i64 a0, .int .i64 a1], .agg #[.int .i64 b0, .int .i64 b1], .func (.func 170) #[] #[.pointer (some ⟨tb, 0, none⟩), .pointer (some ⟨xb, 0, none⟩), .pointer (some ⟨yb, 0, none⟩)], .agg #[.int .i64 x.1.x, .int .i64 x.1.y, .int .i64 x.1.n, .int .i64 x.1.d], undef, undef, undef, undef, undef, undef, undef, undef, undef], defers := [] })
    (fun x a' _ A B row hs hg hr => by obtain ⟨Bx, h1, h2, h3⟩ := hs; exact ⟨Bx, h1, cells_own Bx 133 (fun (_ : Unit) => cellsP x.1) () A B row h2 hg (fun r e => (hr r e).2), h3⟩)
    ?assign ?body ?done ?stop
  case assign =>
    rintro l pre x W K ⟨⟨i3, i4, i5, i6, i7⟩, hBl, hpre⟩ hK
    have HI3 := Aside0.mk i3
    have HI4 := Aside0.mk i4
    have HI5 := Aside0.mk i5
    have HI6 := Aside0.mk i6
    have HI7 := Aside0.mk i7
    have HBl := Aside0.mk hBl
    have HPre := Aside0.mk hpre
    have hlt7 : s7 < W.heap.size := blk_lt i7
    clear i3 i4 i5 i6 i7 hBl hpre hord hx
    dsimp only [encP]
    gi_wp2
    exact hK _ _ ((KeepsOthers.alloc _ _).from _) (KpS.of_below HBl.out.size ((Below.refl _ _).alloc (Nat.le_refl _) _)) ⟨⟨blk_alloc HI3.out _, blk_alloc HI4.out _, blk_alloc HI5.out _, blk_alloc HI6.out _, blk_alloc HI7.out _⟩, below_alloc HBl.out _, HPre.out⟩ ⟨W.heap.size, hlt7, blk_new _ _, rfl⟩
  case body =>
    rintro l pre x a' W hl ⟨r, hr⟩ ⟨⟨i3, i4, i5, i6, i7⟩, hBl, hpre⟩ ⟨Bx, hBx, hP, rfl⟩ hlt
    have HI3 := Aside0.mk i3
    have HI4 := Aside0.mk i4
    have HI5 := Aside0.mk i5
    have HI6 := Aside0.mk i6
    have HI7 := Aside0.mk i7
    have HBl := Aside0.mk hBl
    have HPre := Aside0.mk hpre
    have HP := Aside0.mk hP
    have hup : spans_value_up.f x.1.n x.1.d = some (ceP x.1) := good_up x.2
    have HUP := Aside0.mk hup
    have cx0 : W.cell? ⟨Bx, 0, none⟩ = some (.int .i64 x.1.x) := (blk_cell HP.out 0).trans rfl
    have cx1 : W.cell? ⟨Bx, 1, none⟩ = some (.int .i64 x.1.y) := (blk_cell HP.out 1).trans rfl
    have cx2 : W.cell? ⟨Bx, 2, none⟩ = some (.int .i64 x.1.n) := (blk_cell HP.out 2).trans rfl
    have cx3 : W.cell? ⟨Bx, 3, none⟩ = some (.int .i64 x.1.d) := (blk_cell HP.out 3).trans rfl
    have c3 : W.cell? ⟨s3, 0, none⟩ = some (.int .i64 limit) := (blk_cell HI3.out 0).trans rfl
    have hdep : 1 ≤ n - 1 - 1 := by omega
    clear i3 i4 i5 i6 i7 hBl hpre hP hord hx hup
    have g4 : w.heap.size ≤ s4 := by have := HO.out; omega
    have g5 : w.heap.size ≤ s5 := by have := HO.out; omega
    have g6 : w.heap.size ≤ s6 := by have := HO.out; omega
    have g7 : w.heap.size ≤ s7 := by have := HO.out; omega
    have HG := Aside0.mk (show w.heap.size ≤ s4 ∧ w.heap.size ≤ s5 ∧ w.heap.size ≤ s6 ∧ w.heap.size ≤ s7 from ⟨g4, g5, g6, g7⟩)
    have nx4 : ¬ (Bx = s4) := by have := HO.out; omega
    have nx5 : ¬ (Bx = s5) := by have := HO.out; omega
    have nx6 : ¬ (Bx = s6) := by have := HO.out; omega
    have nx7 : ¬ (Bx = s7) := by have := HO.out; omega
    have n54 : ¬ (s5 = s4) := by have := HO.out; omega
    have n64 : ¬ (s6 = s4) := by have := HO.out; omega
    have n74 : ¬ (s7 = s4) := by have := HO.out; omega
    have n65 : ¬ (s6 = s5) := by have := HO.out; omega
    have n75 : ¬ (s7 = s5) := by have := HO.out; omega
    have n76 : ¬ (s7 = s6) := by have := HO.out; omega
    clear g4 g5 g6 g7
    by_cases hgt : limit < ceP x.1
    · gi_wp2
      rename_i K0 hK0
      have key : ∀ w1, Below W.drew.heap.size W.drew w1 → K0 { tmps := #[.agg #[.slice A0 X.length c0, .slice A1 Y.length c1, .slice A2 V.length c2], .agg #[.int .i64 a0, .int .i64 a1], .agg #[.int .i64 b0, .int .i64 b1], .int .i64 limit, .pointer (some ⟨w.heap.size, 0, none⟩), .pointer (some ⟨s1, 0, none⟩), .pointer (some ⟨s2, 0, none⟩), .pointer (some ⟨s3, 0, none⟩), .pointer (some ⟨s4, 0, none⟩), .pointer (some ⟨s5, 0, none⟩), .pointer (some ⟨s6, 0, none⟩), .pointer (some ⟨s7, 0, none⟩), .int .i64 0, .pointer (some ⟨Bx, 0, none⟩), .agg #[.slice A0 X.length c0, .slice A1 Y.length c1, .slice A2 V.length c2], .agg #[.int .i64 a0, .int .i64 a1], .agg #[.int .i64 b0, .int .i64 b1], .int .i64 0, .int .i64 0, .bool false, undef, .agg #[.slice A0 X.length c0, .slice A1 Y.length c1, .slice A2 V.length c2], .agg #[.int .i64 a0, .int .i64 a1], .agg #[.int .i64 b0, .int .i64 b1], .func (.func 170) #[] #[.pointer (some ⟨tb, 0, none⟩), .pointer (some ⟨xb, 0, none⟩), .pointer (some ⟨yb, 0, none⟩)], .agg #[.int .i64 x.1.x, .int .i64 x.1.y, .int .i64 x.1.n, .int .i64 x.1.d], .pointer (some ⟨Bx, 2, none⟩), .agg #[.int .i64 x.1.n, .int .i64 x.1.d], .int .i64 (ceP x.1), .int .i64 limit, .bool true, undef, undef, undef, undef], defers := [] } w1 := by
        intro w1 hb1
        have HD := Aside0.mk hb1
        have HP1 := Aside0.mk (blk_below (blk_drew HP.out) hb1)
        have HI41 := Aside0.mk (blk_below (blk_drew HI4.out) hb1)
        have HI51 := Aside0.mk (blk_below (blk_drew HI5.out) hb1)
        have HI61 := Aside0.mk (blk_below (blk_drew HI6.out) hb1)
        have HI71 := Aside0.mk (blk_below (blk_drew HI7.out) hb1)
        have HI31 := Aside0.mk (blk_below (blk_drew HI3.out) hb1)
        have kb : Below W.heap.size W w1 := (below_drew (Below.refl _ W)).trans hb1
        have HKB := Aside0.mk kb
        have d4 := blk_put (blk_drew HI41.out) 0 (.int .i64 x.1.x) (cs' := #[.int .i64 x.1.x]) rfl
        have d5 := blk_put (blk_far (p := ⟨s4, 0, none⟩) (blk_drew HI51.out) n54 (.int .i64 x.1.x)) 0 (.int .i64 x.1.y) (cs' := #[.int .i64 x.1.y]) rfl
        have d6 := blk_put (blk_far (p := ⟨s5, 0, none⟩) (blk_far (p := ⟨s4, 0, none⟩) (blk_drew HI61.out) n64 (.int .i64 x.1.x)) n65 (.int .i64 x.1.y)) 0 (.bool false) (cs' := #[.bool false]) rfl
        have d7 := blk_put (blk_far (p := ⟨s6, 0, none⟩) (blk_far (p := ⟨s5, 0, none⟩) (blk_far (p := ⟨s4, 0, none⟩) (blk_drew HI71.out) n74 (.int .i64 x.1.x)) n75 (.int .i64 x.1.y)) n76 (.bool false)) 0 (.int .i64 0) (cs' := #[.int .i64 0]) rfl
        have fin : KeepsFrom W0.heap.size W ((((w1.drew.setCell ⟨s4, 0, none⟩ (.int .i64 x.1.x)).setCell ⟨s5, 0, none⟩ (.int .i64 x.1.y)).setCell ⟨s6, 0, none⟩ (.bool false)).setCell ⟨s7, 0, none⟩ (.int .i64 0)) ∧
            BelX w s4 s5 s6 s7 limit .ret (pre ++ [x]) ((((w1.drew.setCell ⟨s4, 0, none⟩ (.int .i64 x.1.x)).setCell ⟨s5, 0, none⟩ (.int .i64 x.1.y)).setCell ⟨s6, 0, none⟩ (.bool false)).setCell ⟨s7, 0, none⟩ (.int .i64 0)) :=
          ⟨((((((kothers_below kb).trans (kothers_below (below_drew (Below.refl _ w1)))).trans (KeepsOthers.setCell _ _ _)).trans (KeepsOthers.setCell _ _ _)).trans (KeepsOthers.setCell _ _ _)).trans (KeepsOthers.setCell _ _ _)).from _,
           rfl, pre, x, rfl, HPre.out, hgt, ⟨blk_far (p := ⟨s7, 0, none⟩) (blk_far (p := ⟨s6, 0, none⟩) (blk_far (p := ⟨s5, 0, none⟩) d4 (fun e => n54 e.symm) _) (fun e => n64 e.symm) _) (fun e => n74 e.symm) _,
             blk_far (p := ⟨s7, 0, none⟩) (blk_far (p := ⟨s6, 0, none⟩) d5 (fun e => n65 e.symm) _) (fun e => n75 e.symm) _, blk_far (p := ⟨s7, 0, none⟩) d6 (fun e => n76 e.symm) _, d7⟩,
           below_set (below_set (below_set (below_set (below_drew (HBl.out.trans (kb.mono HBl.out.size))) HG.out.1) HG.out.2.1) HG.out.2.2.1) HG.out.2.2.2⟩
        have HFin := Aside0.mk fin
        have y0 : w1.cell? ⟨Bx, 0, none⟩ = some (.int .i64 x.1.x) := (blk_cell HP1.out 0).trans rfl
        have y1 : w1.cell? ⟨Bx, 1, none⟩ = some (.int .i64 x.1.y) := (blk_cell HP1.out 1).trans rfl
        have z4 : w1.cell? ⟨s4, 0, none⟩ = some (.int .i64 0) := (blk_cell HI41.out 0).trans rfl
        have z5 : w1.cell? ⟨s5, 0, none⟩ = some (.int .i64 0) := (blk_cell HI51.out 0).trans rfl
        have z6 : w1.cell? ⟨s6, 0, none⟩ = some (.bool false) := (blk_cell HI61.out 0).trans rfl
        have z7 : w1.cell? ⟨s7, 0, none⟩ = some (.int .i64 0) := (blk_cell HI71.out 0).trans rfl
        have f4 := blk_frozen HI41.out 0
        have f5 := blk_frozen HI51.out 0
        have f6 := blk_frozen HI61.out 0
        have f7 := blk_frozen HI71.out 0
        clear cx0 cx1 cx2 cx3 c3 hb1 kb d4 d5 d6 d7 fin
        refine hK0 _ _ ?_
        clear hK0
        gi_wp2
        refine wpIn_region_any (by kernel_rfl) ?_
        (try (change wpAnyIn _ _ _ _ _ _ _ _ _ (World.drew _)))
        refine wpAnyIn_ready (rs := [0, 2]) (by kernel_rfl) (by simp) (AllReadyIn.cons rfl (fun K hK => ?_) (AllReadyIn.cons rfl (fun K hK => ?_) AllReadyIn.nil))
        · go_simp
          refine hK _ _ ?_; clear hK K
          refine wpAnyIn_ready (rs := [1, 2]) (by kernel_rfl) (by simp) (AllReadyIn.cons rfl (fun K hK => ?_) (AllReadyIn.cons rfl (fun K hK => ?_) AllReadyIn.nil))
          · go_simp
            refine hK _ _ ?_; clear hK K
            refine wpAnyIn_ready (rs := [2, 4]) (by kernel_rfl) (by simp) (AllReadyIn.cons rfl (fun K hK => ?_) (AllReadyIn.cons rfl (fun K hK => ?_) AllReadyIn.nil))
            · go_simp
              refine hK _ _ ?_; clear hK K
              refine wpAnyIn_ready (rs := [3, 4]) (by kernel_rfl) (by simp) (AllReadyIn.cons rfl (fun K hK => ?_) (AllReadyIn.cons rfl (fun K hK => ?_) AllReadyIn.nil))
              · go_simp
                refine hK _ _ ?_; clear hK K
                refine wpAnyIn_ready (rs := [4]) (by kernel_rfl) (by simp) (AllReadyIn.cons rfl (fun K hK => ?_) AllReadyIn.nil)
                go_simp
                refine hK _ _ ?_; clear hK K
                refine wpAnyIn_ready (rs := [5]) (by kernel_rfl) (by simp) (AllReadyIn.cons rfl (fun K hK => ?_) AllReadyIn.nil)
                go_simp
                refine hK _ _ ?_; clear hK K
                refine wpAnyIn_ready (rs := [6]) (by kernel_rfl) (by simp) (AllReadyIn.cons rfl (fun K hK => ?_) AllReadyIn.nil)
                go_simp
                refine hK _ _ ?_; clear hK K
                refine wpAnyIn_ready (rs := [7]) (by kernel_rfl) (by simp) (AllReadyIn.cons rfl (fun K hK => ?_) AllReadyIn.nil)
                go_simp
                refine hK _ _ ?_; clear hK K
                refine wpAnyIn_done (by kernel_rfl) ?_ _
                gi_wp2
                exact HFin.out
              · go_simp
                refine hK _ _ ?_; clear hK K
                refine wpAnyIn_ready (rs := [3]) (by kernel_rfl) (by simp) (AllReadyIn.cons rfl (fun K hK => ?_) AllReadyIn.nil)
                go_simp
                refine hK _ _ ?_; clear hK K
                refine wpAnyIn_ready (rs := [5]) (by kernel_rfl) (by simp) (AllReadyIn.cons rfl (fun K hK => ?_) AllReadyIn.nil)
                go_simp
                refine hK _ _ ?_; clear hK K
                refine wpAnyIn_ready (rs := [6]) (by kernel_rfl) (by simp) (AllReadyIn.cons rfl (fun K hK => ?_) AllReadyIn.nil)
                go_simp
                refine hK _ _ ?_; clear hK K
                refine wpAnyIn_ready (rs := [7]) (by kernel_rfl) (by simp) (AllReadyIn.cons rfl (fun K hK => ?_) AllReadyIn.nil)
                go_simp
                refine hK _ _ ?_; clear hK K
                refine wpAnyIn_done (by kernel_rfl) ?_ _
                gi_wp2
                exact HFin.out
            · go_simp
              refine hK _ _ ?_; clear hK K
              refine wpAnyIn_ready (rs := [2]) (by kernel_rfl) (by simp) (AllReadyIn.cons rfl (fun K hK => ?_) AllReadyIn.nil)
              go_simp
              refine hK _ _ ?_; clear hK K
              refine wpAnyIn_ready (rs := [3]) (by kernel_rfl) (by simp) (AllReadyIn.cons rfl (fun K hK => ?_) AllReadyIn.nil)
              go_simp
              refine hK _ _ ?_; clear hK K
              refine wpAnyIn_ready (rs := [5]) (by kernel_rfl) (by simp) (AllReadyIn.cons rfl (fun K hK => ?_) AllReadyIn.nil)
              go_simp
              refine hK _ _ ?_; clear hK K
              refine wpAnyIn_ready (rs := [6]) (by kernel_rfl) (by simp) (AllReadyIn.cons rfl (fun K hK => ?_) AllReadyIn.nil)
              go_simp
              refine hK _ _ ?_; clear hK K
              refine wpAnyIn_ready (rs := [7]) (by kernel_rfl) (by simp) (AllReadyIn.cons rfl (fun K hK => ?_) AllReadyIn.nil)
              go_simp
              refine hK _ _ ?_; clear hK K
              refine wpAnyIn_done (by kernel_rfl) ?_ _
              gi_wp2
              exact HFin.out
          · go_simp
            refine hK _ _ ?_; clear hK K
            refine wpAnyIn_ready (rs := [1, 3]) (by kernel_rfl) (by simp) (AllReadyIn.cons rfl (fun K hK => ?_) (AllReadyIn.cons rfl (fun K hK => ?_) AllReadyIn.nil))
            · go_simp
              refine hK _ _ ?_; clear hK K
              refine wpAnyIn_ready (rs := [3, 4]) (by kernel_rfl) (by simp) (AllReadyIn.cons rfl (fun K hK => ?_) (AllReadyIn.cons rfl (fun K hK => ?_) AllReadyIn.nil))
              · go_simp
                refine hK _ _ ?_; clear hK K
                refine wpAnyIn_ready (rs := [4]) (by kernel_rfl) (by simp) (AllReadyIn.cons rfl (fun K hK => ?_) AllReadyIn.nil)
                go_simp
                refine hK _ _ ?_; clear hK K
                refine wpAnyIn_ready (rs := [5]) (by kernel_rfl) (by simp) (AllReadyIn.cons rfl (fun K hK => ?_) AllReadyIn.nil)
                go_simp
                refine hK _ _ ?_; clear hK K
                refine wpAnyIn_ready (rs := [6]) (by kernel_rfl) (by simp) (AllReadyIn.cons rfl (fun K hK => ?_) AllReadyIn.nil)
                go_simp
                refine hK _ _ ?_; clear hK K
                refine wpAnyIn_ready (rs := [7]) (by kernel_rfl) (by simp) (AllReadyIn.cons rfl (fun K hK => ?_) AllReadyIn.nil)
                go_simp
                refine hK _ _ ?_; clear hK K
                refine wpAnyIn_done (by kernel_rfl) ?_ _
                gi_wp2
                exact HFin.out
              · go_simp
                refine hK _ _ ?_; clear hK K
                refine wpAnyIn_ready (rs := [3]) (by kernel_rfl) (by simp) (AllReadyIn.cons rfl (fun K hK => ?_) AllReadyIn.nil)
                go_simp
                refine hK _ _ ?_; clear hK K
                refine wpAnyIn_ready (rs := [5]) (by kernel_rfl) (by simp) (AllReadyIn.cons rfl (fun K hK => ?_) AllReadyIn.nil)
                go_simp
                refine hK _ _ ?_; clear hK K
                refine wpAnyIn_ready (rs := [6]) (by kernel_rfl) (by simp) (AllReadyIn.cons rfl (fun K hK => ?_) AllReadyIn.nil)
                go_simp
                refine hK _ _ ?_; clear hK K
                refine wpAnyIn_ready (rs := [7]) (by kernel_rfl) (by simp) (AllReadyIn.cons rfl (fun K hK => ?_) AllReadyIn.nil)
                go_simp
                refine hK _ _ ?_; clear hK K
                refine wpAnyIn_done (by kernel_rfl) ?_ _
                gi_wp2
                exact HFin.out
            · go_simp
              refine hK _ _ ?_; clear hK K
              refine wpAnyIn_ready (rs := [1]) (by kernel_rfl) (by simp) (AllReadyIn.cons rfl (fun K hK => ?_) AllReadyIn.nil)
              go_simp
              refine hK _ _ ?_; clear hK K
              refine wpAnyIn_ready (rs := [4]) (by kernel_rfl) (by simp) (AllReadyIn.cons rfl (fun K hK => ?_) AllReadyIn.nil)
              go_simp
              refine hK _ _ ?_; clear hK K
              refine wpAnyIn_ready (rs := [5]) (by kernel_rfl) (by simp) (AllReadyIn.cons rfl (fun K hK => ?_) AllReadyIn.nil)
              go_simp
              refine hK _ _ ?_; clear hK K
              refine wpAnyIn_ready (rs := [6]) (by kernel_rfl) (by simp) (AllReadyIn.cons rfl (fun K hK => ?_) AllReadyIn.nil)
              go_simp
              refine hK _ _ ?_; clear hK K
              refine wpAnyIn_ready (rs := [7]) (by kernel_rfl) (by simp) (AllReadyIn.cons rfl (fun K hK => ?_) AllReadyIn.nil)
              go_simp
              refine hK _ _ ?_; clear hK K
              refine wpAnyIn_done (by kernel_rfl) ?_ _
              gi_wp2
              exact HFin.out
        · go_simp
          refine hK _ _ ?_; clear hK K
          refine wpAnyIn_ready (rs := [0, 3]) (by kernel_rfl) (by simp) (AllReadyIn.cons rfl (fun K hK => ?_) (AllReadyIn.cons rfl (fun K hK => ?_) AllReadyIn.nil))
          · go_simp
            refine hK _ _ ?_; clear hK K
            refine wpAnyIn_ready (rs := [1, 3]) (by kernel_rfl) (by simp) (AllReadyIn.cons rfl (fun K hK => ?_) (AllReadyIn.cons rfl (fun K hK => ?_) AllReadyIn.nil))
            · go_simp
              refine hK _ _ ?_; clear hK K
              refine wpAnyIn_ready (rs := [3, 4]) (by kernel_rfl) (by simp) (AllReadyIn.cons rfl (fun K hK => ?_) (AllReadyIn.cons rfl (fun K hK => ?_) AllReadyIn.nil))
              · go_simp
                refine hK _ _ ?_; clear hK K
                refine wpAnyIn_ready (rs := [4]) (by kernel_rfl) (by simp) (AllReadyIn.cons rfl (fun K hK => ?_) AllReadyIn.nil)
                go_simp
                refine hK _ _ ?_; clear hK K
                refine wpAnyIn_ready (rs := [5]) (by kernel_rfl) (by simp) (AllReadyIn.cons rfl (fun K hK => ?_) AllReadyIn.nil)
                go_simp
                refine hK _ _ ?_; clear hK K
                refine wpAnyIn_ready (rs := [6]) (by kernel_rfl) (by simp) (AllReadyIn.cons rfl (fun K hK => ?_) AllReadyIn.nil)
                go_simp
                refine hK _ _ ?_; clear hK K
                refine wpAnyIn_ready (rs := [7]) (by kernel_rfl) (by simp) (AllReadyIn.cons rfl (fun K hK => ?_) AllReadyIn.nil)
                go_simp
                refine hK _ _ ?_; clear hK K
                refine wpAnyIn_done (by kernel_rfl) ?_ _
                gi_wp2
                exact HFin.out
              · go_simp
                refine hK _ _ ?_; clear hK K
                refine wpAnyIn_ready (rs := [3]) (by kernel_rfl) (by simp) (AllReadyIn.cons rfl (fun K hK => ?_) AllReadyIn.nil)
                go_simp
                refine hK _ _ ?_; clear hK K
                refine wpAnyIn_ready (rs := [5]) (by kernel_rfl) (by simp) (AllReadyIn.cons rfl (fun K hK => ?_) AllReadyIn.nil)
                go_simp
                refine hK _ _ ?_; clear hK K
                refine wpAnyIn_ready (rs := [6]) (by kernel_rfl) (by simp) (AllReadyIn.cons rfl (fun K hK => ?_) AllReadyIn.nil)
                go_simp
                refine hK _ _ ?_; clear hK K
                refine wpAnyIn_ready (rs := [7]) (by kernel_rfl) (by simp) (AllReadyIn.cons rfl (fun K hK => ?_) AllReadyIn.nil)
                go_simp
                refine hK _ _ ?_; clear hK K
                refine wpAnyIn_done (by kernel_rfl) ?_ _
                gi_wp2
                exact HFin.out
            · go_simp
              refine hK _ _ ?_; clear hK K
              refine wpAnyIn_ready (rs := [1]) (by kernel_rfl) (by simp) (AllReadyIn.cons rfl (fun K hK => ?_) AllReadyIn.nil)
              go_simp
              refine hK _ _ ?_; clear hK K
              refine wpAnyIn_ready (rs := [4]) (by kernel_rfl) (by simp) (AllReadyIn.cons rfl (fun K hK => ?_) AllReadyIn.nil)
              go_simp
              refine hK _ _ ?_; clear hK K
              refine wpAnyIn_ready (rs := [5]) (by kernel_rfl) (by simp) (AllReadyIn.cons rfl (fun K hK => ?_) AllReadyIn.nil)
              go_simp
              refine hK _ _ ?_; clear hK K
              refine wpAnyIn_ready (rs := [6]) (by kernel_rfl) (by simp) (AllReadyIn.cons rfl (fun K hK => ?_) AllReadyIn.nil)
              go_simp
              refine hK _ _ ?_; clear hK K
              refine wpAnyIn_ready (rs := [7]) (by kernel_rfl) (by simp) (AllReadyIn.cons rfl (fun K hK => ?_) AllReadyIn.nil)
              go_simp
              refine hK _ _ ?_; clear hK K
              refine wpAnyIn_done (by kernel_rfl) ?_ _
              gi_wp2
              exact HFin.out
          · go_simp
            refine hK _ _ ?_; clear hK K
            refine wpAnyIn_ready (rs := [0]) (by kernel_rfl) (by simp) (AllReadyIn.cons rfl (fun K hK => ?_) AllReadyIn.nil)
            go_simp
            refine hK _ _ ?_; clear hK K
            refine wpAnyIn_ready (rs := [1]) (by kernel_rfl) (by simp) (AllReadyIn.cons rfl (fun K hK => ?_) AllReadyIn.nil)
            go_simp
            refine hK _ _ ?_; clear hK K
            refine wpAnyIn_ready (rs := [4]) (by kernel_rfl) (by simp) (AllReadyIn.cons rfl (fun K hK => ?_) AllReadyIn.nil)
            go_simp
            refine hK _ _ ?_; clear hK K
            refine wpAnyIn_ready (rs := [5]) (by kernel_rfl) (by simp) (AllReadyIn.cons rfl (fun K hK => ?_) AllReadyIn.nil)
            go_simp
            refine hK _ _ ?_; clear hK K
            refine wpAnyIn_ready (rs := [6]) (by kernel_rfl) (by simp) (AllReadyIn.cons rfl (fun K hK => ?_) AllReadyIn.nil)
            go_simp
            refine hK _ _ ?_; clear hK K
            refine wpAnyIn_ready (rs := [7]) (by kernel_rfl) (by simp) (AllReadyIn.cons rfl (fun K hK => ?_) AllReadyIn.nil)
            go_simp
            refine hK _ _ ?_; clear hK K
            refine wpAnyIn_done (by kernel_rfl) ?_ _
            gi_wp2
            exact HFin.out
      clear nx4 nx5 nx6 nx7 n54 n64 n74 n65 n75 n76
      refine wpIn_region_any (by kernel_rfl) ?_
      (try (change wpAnyIn _ _ _ _ _ _ _ _ _ (World.drew _)))
      refine wpAnyIn_ready (rs := [0, 3]) (by kernel_rfl) (by simp) (AllReadyIn.cons rfl (fun K hK => ?_) (AllReadyIn.cons rfl (fun K hK => ?_) AllReadyIn.nil))
      · go_simp
        refine hK _ _ ?_; clear hK K
        refine wpAnyIn_ready (rs := [1, 3]) (by kernel_rfl) (by simp) (AllReadyIn.cons rfl (fun K hK => ?_) (AllReadyIn.cons rfl (fun K hK => ?_) AllReadyIn.nil))
        · go_simp
          refine hK _ _ ?_; clear hK K
          refine wpAnyIn_ready (rs := [2, 3]) (by kernel_rfl) (by simp) (AllReadyIn.cons rfl (fun K hK => ?_) (AllReadyIn.cons rfl (fun K hK => ?_) AllReadyIn.nil))
          · go_simp
            refine ⟨trivial, ?_⟩
            gi_at_call 90
            have hcall := CallsIn.inRound l (callsIn_wide (n := n - 1 - 1 - 1).2 (spans_value_up.calls x.1.n x.1.d (ceP x.1) W.drew HUP.out))
            with_reducible refine hcall.mono ?_
            clear hcall
            rintro e w1 ⟨rfl, hb1⟩
            clear cx0 cx1 cx2 cx3 c3
            have HP1 := Aside0.mk (blk_below (blk_drew HP.out) hb1)
            have HI31 := Aside0.mk (blk_below (blk_drew HI3.out) hb1)
            have HI41 := Aside0.mk (blk_below (blk_drew HI4.out) hb1)
            have HI51 := Aside0.mk (blk_below (blk_drew HI5.out) hb1)
            have HI61 := Aside0.mk (blk_below (blk_drew HI6.out) hb1)
            have HI71 := Aside0.mk (blk_below (blk_drew HI7.out) hb1)
            have HD := Aside0.mk hb1
            clear hb1
            have cx0 : w1.cell? ⟨Bx, 0, none⟩ = some (.int .i64 x.1.x) := (blk_cell HP1.out 0).trans rfl
            have cx1 : w1.cell? ⟨Bx, 1, none⟩ = some (.int .i64 x.1.y) := (blk_cell HP1.out 1).trans rfl
            have cx2 : w1.cell? ⟨Bx, 2, none⟩ = some (.int .i64 x.1.n) := (blk_cell HP1.out 2).trans rfl
            have cx3 : w1.cell? ⟨Bx, 3, none⟩ = some (.int .i64 x.1.d) := (blk_cell HP1.out 3).trans rfl
            have c3 : w1.cell? ⟨s3, 0, none⟩ = some (.int .i64 limit) := (blk_cell HI31.out 0).trans rfl
            simp only []
            refine hK _ _ ?_; clear hK K
            refine wpAnyIn_ready (rs := [3]) (by kernel_rfl) (by simp) (AllReadyIn.cons rfl (fun K hK => ?_) AllReadyIn.nil)
            go_simp
            refine hK _ _ ?_; clear hK K
            refine wpAnyIn_ready (rs := [4]) (by kernel_rfl) (by simp) (AllReadyIn.cons rfl (fun K hK => ?_) AllReadyIn.nil)
            go_simp
            refine hK _ _ ?_; clear hK K
            refine wpAnyIn_done (by kernel_rfl) ?_ _
            exact key w1 HD.out
          · go_simp
            refine hK _ _ ?_; clear hK K
            refine wpAnyIn_ready (rs := [2]) (by kernel_rfl) (by simp) (AllReadyIn.cons rfl (fun K hK => ?_) AllReadyIn.nil)
            go_simp
            refine ⟨trivial, ?_⟩
            gi_at_call 90
            have hcall := CallsIn.inRound l (callsIn_wide (n := n - 1 - 1 - 1).2 (spans_value_up.calls x.1.n x.1.d (ceP x.1) W.drew HUP.out))
            with_reducible refine hcall.mono ?_
            clear hcall
            rintro e w1 ⟨rfl, hb1⟩
            clear cx0 cx1 cx2 cx3 c3
            have HP1 := Aside0.mk (blk_below (blk_drew HP.out) hb1)
            have HI31 := Aside0.mk (blk_below (blk_drew HI3.out) hb1)
            have HI41 := Aside0.mk (blk_below (blk_drew HI4.out) hb1)
            have HI51 := Aside0.mk (blk_below (blk_drew HI5.out) hb1)
            have HI61 := Aside0.mk (blk_below (blk_drew HI6.out) hb1)
            have HI71 := Aside0.mk (blk_below (blk_drew HI7.out) hb1)
            have HD := Aside0.mk hb1
            clear hb1
            have cx0 : w1.cell? ⟨Bx, 0, none⟩ = some (.int .i64 x.1.x) := (blk_cell HP1.out 0).trans rfl
            have cx1 : w1.cell? ⟨Bx, 1, none⟩ = some (.int .i64 x.1.y) := (blk_cell HP1.out 1).trans rfl
            have cx2 : w1.cell? ⟨Bx, 2, none⟩ = some (.int .i64 x.1.n) := (blk_cell HP1.out 2).trans rfl
            have cx3 : w1.cell? ⟨Bx, 3, none⟩ = some (.int .i64 x.1.d) := (blk_cell HP1.out 3).trans rfl
            have c3 : w1.cell? ⟨s3, 0, none⟩ = some (.int .i64 limit) := (blk_cell HI31.out 0).trans rfl
            simp only []
            refine hK _ _ ?_; clear hK K
            refine wpAnyIn_ready (rs := [4]) (by kernel_rfl) (by simp) (AllReadyIn.cons rfl (fun K hK => ?_) AllReadyIn.nil)
            go_simp
            refine hK _ _ ?_; clear hK K
            refine wpAnyIn_done (by kernel_rfl) ?_ _
            exact key w1 HD.out
        · go_simp
          refine hK _ _ ?_; clear hK K
          refine wpAnyIn_ready (rs := [1]) (by kernel_rfl) (by simp) (AllReadyIn.cons rfl (fun K hK => ?_) AllReadyIn.nil)
          go_simp
          refine hK _ _ ?_; clear hK K
          refine wpAnyIn_ready (rs := [2]) (by kernel_rfl) (by simp) (AllReadyIn.cons rfl (fun K hK => ?_) AllReadyIn.nil)
          go_simp
          refine ⟨trivial, ?_⟩
          gi_at_call 90
          have hcall := CallsIn.inRound l (callsIn_wide (n := n - 1 - 1 - 1).2 (spans_value_up.calls x.1.n x.1.d (ceP x.1) W.drew HUP.out))
          with_reducible refine hcall.mono ?_
          clear hcall
          rintro e w1 ⟨rfl, hb1⟩
          clear cx0 cx1 cx2 cx3 c3
          have HP1 := Aside0.mk (blk_below (blk_drew HP.out) hb1)
          have HI31 := Aside0.mk (blk_below (blk_drew HI3.out) hb1)
          have HI41 := Aside0.mk (blk_below (blk_drew HI4.out) hb1)
          have HI51 := Aside0.mk (blk_below (blk_drew HI5.out) hb1)
          have HI61 := Aside0.mk (blk_below (blk_drew HI6.out) hb1)
          have HI71 := Aside0.mk (blk_below (blk_drew HI7.out) hb1)
          have HD := Aside0.mk hb1
          clear hb1
          have cx0 : w1.cell? ⟨Bx, 0, none⟩ = some (.int .i64 x.1.x) := (blk_cell HP1.out 0).trans rfl
          have cx1 : w1.cell? ⟨Bx, 1, none⟩ = some (.int .i64 x.1.y) := (blk_cell HP1.out 1).trans rfl
          have cx2 : w1.cell? ⟨Bx, 2, none⟩ = some (.int .i64 x.1.n) := (blk_cell HP1.out 2).trans rfl
          have cx3 : w1.cell? ⟨Bx, 3, none⟩ = some (.int .i64 x.1.d) := (blk_cell HP1.out 3).trans rfl
          have c3 : w1.cell? ⟨s3, 0, none⟩ = some (.int .i64 limit) := (blk_cell HI31.out 0).trans rfl
          simp only []
          refine hK _ _ ?_; clear hK K
          refine wpAnyIn_ready (rs := [4]) (by kernel_rfl) (by simp) (AllReadyIn.cons rfl (fun K hK => ?_) AllReadyIn.nil)
          go_simp
          refine hK _ _ ?_; clear hK K
          refine wpAnyIn_done (by kernel_rfl) ?_ _
          exact key w1 HD.out
      · go_simp
        refine hK _ _ ?_; clear hK K
        refine wpAnyIn_ready (rs := [0]) (by kernel_rfl) (by simp) (AllReadyIn.cons rfl (fun K hK => ?_) AllReadyIn.nil)
        go_simp
        refine hK _ _ ?_; clear hK K
        refine wpAnyIn_ready (rs := [1]) (by kernel_rfl) (by simp) (AllReadyIn.cons rfl (fun K hK => ?_) AllReadyIn.nil)
        go_simp
        refine hK _ _ ?_; clear hK K
        refine wpAnyIn_ready (rs := [2]) (by kernel_rfl) (by simp) (AllReadyIn.cons rfl (fun K hK => ?_) AllReadyIn.nil)
        go_simp
        refine ⟨trivial, ?_⟩
        gi_at_call 90
        have hcall := CallsIn.inRound l (callsIn_wide (n := n - 1 - 1 - 1).2 (spans_value_up.calls x.1.n x.1.d (ceP x.1) W.drew HUP.out))
        with_reducible refine hcall.mono ?_
        clear hcall
        rintro e w1 ⟨rfl, hb1⟩
        clear cx0 cx1 cx2 cx3 c3
        have HP1 := Aside0.mk (blk_below (blk_drew HP.out) hb1)
        have HI31 := Aside0.mk (blk_below (blk_drew HI3.out) hb1)
        have HI41 := Aside0.mk (blk_below (blk_drew HI4.out) hb1)
        have HI51 := Aside0.mk (blk_below (blk_drew HI5.out) hb1)
        have HI61 := Aside0.mk (blk_below (blk_drew HI6.out) hb1)
        have HI71 := Aside0.mk (blk_below (blk_drew HI7.out) hb1)
        have HD := Aside0.mk hb1
        clear hb1
        have cx0 : w1.cell? ⟨Bx, 0, none⟩ = some (.int .i64 x.1.x) := (blk_cell HP1.out 0).trans rfl
        have cx1 : w1.cell? ⟨Bx, 1, none⟩ = some (.int .i64 x.1.y) := (blk_cell HP1.out 1).trans rfl
        have cx2 : w1.cell? ⟨Bx, 2, none⟩ = some (.int .i64 x.1.n) := (blk_cell HP1.out 2).trans rfl
        have cx3 : w1.cell? ⟨Bx, 3, none⟩ = some (.int .i64 x.1.d) := (blk_cell HP1.out 3).trans rfl
        have c3 : w1.cell? ⟨s3, 0, none⟩ = some (.int .i64 limit) := (blk_cell HI31.out 0).trans rfl
        simp only []
        refine hK _ _ ?_; clear hK K
        refine wpAnyIn_ready (rs := [4]) (by kernel_rfl) (by simp) (AllReadyIn.cons rfl (fun K hK => ?_) AllReadyIn.nil)
        go_simp
        refine hK _ _ ?_; clear hK K
        refine wpAnyIn_done (by kernel_rfl) ?_ _
        exact key w1 HD.out
    · have hdec : decide (limit < ceP x.1) = false := decide_eq_false hgt
      gi_wp2
      rename_i K0 hK0
      have key : ∀ w1, Below W.drew.heap.size W.drew w1 → K0 { tmps := #[.agg #[.slice A0 X.length c0, .slice A1 Y.length c1, .slice A2 V.length c2], .agg #[.int .i64 a0, .int .i64 a1], .agg #[.int .i64 b0, .int .i64 b1], .int .i64 limit, .pointer (some ⟨w.heap.size, 0, none⟩), .pointer (some ⟨s1, 0, none⟩), .pointer (some ⟨s2, 0, none⟩), .pointer (some ⟨s3, 0, none⟩), .pointer (some ⟨s4, 0, none⟩), .pointer (some ⟨s5, 0, none⟩), .pointer (some ⟨s6, 0, none⟩), .pointer (some ⟨s7, 0, none⟩), .int .i64 0, .pointer (some ⟨Bx, 0, none⟩), .agg #[.slice A0 X.length c0, .slice A1 Y.length c1, .slice A2 V.length c2], .agg #[.int .i64 a0, .int .i64 a1], .agg #[.int .i64 b0, .int .i64 b1], .int .i64 0, .int .i64 0, .bool false, undef, .agg #[.slice A0 X.length c0, .slice A1 Y.length c1, .slice A2 V.length c2], .agg #[.int .i64 a0, .int .i64 a1], .agg #[.int .i64 b0, .int .i64 b1], .func (.func 170) #[] #[.pointer (some ⟨tb, 0, none⟩), .pointer (some ⟨xb, 0, none⟩), .pointer (some ⟨yb, 0, none⟩)], .agg #[.int .i64 x.1.x, .int .i64 x.1.y, .int .i64 x.1.n, .int .i64 x.1.d], .pointer (some ⟨Bx, 2, none⟩), .agg #[.int .i64 x.1.n, .int .i64 x.1.d], .int .i64 (ceP x.1), .int .i64 limit, .bool false, undef, undef, undef, undef], defers := [] } w1 := by
        intro w1 hb1
        have HD := Aside0.mk hb1
        have HP1 := Aside0.mk (blk_below (blk_drew HP.out) hb1)
        have HI41 := Aside0.mk (blk_below (blk_drew HI4.out) hb1)
        have HI51 := Aside0.mk (blk_below (blk_drew HI5.out) hb1)
        have HI61 := Aside0.mk (blk_below (blk_drew HI6.out) hb1)
        have HI71 := Aside0.mk (blk_below (blk_drew HI7.out) hb1)
        have HI31 := Aside0.mk (blk_below (blk_drew HI3.out) hb1)
        have kb : Below W.heap.size W w1 := (below_drew (Below.refl _ W)).trans hb1
        have HKB := Aside0.mk kb
        clear cx0 cx1 cx2 cx3 c3 hb1
        refine hK0 _ _ ?_
        clear hK0
        gi_wp2
        exact ⟨(kothers_below HKB.out).from _, KpS.of_below HBl.out.size HKB.out, ⟨HI31.out, HI41.out, HI51.out, HI61.out, HI71.out⟩, HBl.out.trans (HKB.out.mono HBl.out.size), fun q hq => by
          rcases List.mem_append.1 hq with h | h
          · exact HPre.out q h
          · rw [List.mem_singleton.1 h]; omega⟩
      clear nx4 nx5 nx6 nx7 n54 n64 n74 n65 n75 n76
      refine wpIn_region_any (by kernel_rfl) ?_
      (try (change wpAnyIn _ _ _ _ _ _ _ _ _ (World.drew _)))
      refine wpAnyIn_ready (rs := [0, 3]) (by kernel_rfl) (by simp) (AllReadyIn.cons rfl (fun K hK => ?_) (AllReadyIn.cons rfl (fun K hK => ?_) AllReadyIn.nil))
      · go_simp
        refine hK _ _ ?_; clear hK K
        refine wpAnyIn_ready (rs := [1, 3]) (by kernel_rfl) (by simp) (AllReadyIn.cons rfl (fun K hK => ?_) (AllReadyIn.cons rfl (fun K hK => ?_) AllReadyIn.nil))
        · go_simp
          refine hK _ _ ?_; clear hK K
          refine wpAnyIn_ready (rs := [2, 3]) (by kernel_rfl) (by simp) (AllReadyIn.cons rfl (fun K hK => ?_) (AllReadyIn.cons rfl (fun K hK => ?_) AllReadyIn.nil))
          · go_simp
            refine ⟨trivial, ?_⟩
            gi_at_call 90
            have hcall := CallsIn.inRound l (callsIn_wide (n := n - 1 - 1 - 1).2 (spans_value_up.calls x.1.n x.1.d (ceP x.1) W.drew HUP.out))
            with_reducible refine hcall.mono ?_
            clear hcall
            rintro e w1 ⟨rfl, hb1⟩
            clear cx0 cx1 cx2 cx3 c3
            have HP1 := Aside0.mk (blk_below (blk_drew HP.out) hb1)
            have HI31 := Aside0.mk (blk_below (blk_drew HI3.out) hb1)
            have HI41 := Aside0.mk (blk_below (blk_drew HI4.out) hb1)
            have HI51 := Aside0.mk (blk_below (blk_drew HI5.out) hb1)
            have HI61 := Aside0.mk (blk_below (blk_drew HI6.out) hb1)
            have HI71 := Aside0.mk (blk_below (blk_drew HI7.out) hb1)
            have HD := Aside0.mk hb1
            clear hb1
            have cx0 : w1.cell? ⟨Bx, 0, none⟩ = some (.int .i64 x.1.x) := (blk_cell HP1.out 0).trans rfl
            have cx1 : w1.cell? ⟨Bx, 1, none⟩ = some (.int .i64 x.1.y) := (blk_cell HP1.out 1).trans rfl
            have cx2 : w1.cell? ⟨Bx, 2, none⟩ = some (.int .i64 x.1.n) := (blk_cell HP1.out 2).trans rfl
            have cx3 : w1.cell? ⟨Bx, 3, none⟩ = some (.int .i64 x.1.d) := (blk_cell HP1.out 3).trans rfl
            have c3 : w1.cell? ⟨s3, 0, none⟩ = some (.int .i64 limit) := (blk_cell HI31.out 0).trans rfl
            simp only []
            refine hK _ _ ?_; clear hK K
            refine wpAnyIn_ready (rs := [3]) (by kernel_rfl) (by simp) (AllReadyIn.cons rfl (fun K hK => ?_) AllReadyIn.nil)
            go_simp
            refine hK _ _ ?_; clear hK K
            refine wpAnyIn_ready (rs := [4]) (by kernel_rfl) (by simp) (AllReadyIn.cons rfl (fun K hK => ?_) AllReadyIn.nil)
            go_simp
            refine hK _ _ ?_; clear hK K
            refine wpAnyIn_done (by kernel_rfl) ?_ _
            exact key w1 HD.out
          · go_simp
            refine hK _ _ ?_; clear hK K
            refine wpAnyIn_ready (rs := [2]) (by kernel_rfl) (by simp) (AllReadyIn.cons rfl (fun K hK => ?_) AllReadyIn.nil)
            go_simp
            refine ⟨trivial, ?_⟩
            gi_at_call 90
            have hcall := CallsIn.inRound l (callsIn_wide (n := n - 1 - 1 - 1).2 (spans_value_up.calls x.1.n x.1.d (ceP x.1) W.drew HUP.out))
            with_reducible refine hcall.mono ?_
            clear hcall
            rintro e w1 ⟨rfl, hb1⟩
            clear cx0 cx1 cx2 cx3 c3
            have HP1 := Aside0.mk (blk_below (blk_drew HP.out) hb1)
            have HI31 := Aside0.mk (blk_below (blk_drew HI3.out) hb1)
            have HI41 := Aside0.mk (blk_below (blk_drew HI4.out) hb1)
            have HI51 := Aside0.mk (blk_below (blk_drew HI5.out) hb1)
            have HI61 := Aside0.mk (blk_below (blk_drew HI6.out) hb1)
            have HI71 := Aside0.mk (blk_below (blk_drew HI7.out) hb1)
            have HD := Aside0.mk hb1
            clear hb1
            have cx0 : w1.cell? ⟨Bx, 0, none⟩ = some (.int .i64 x.1.x) := (blk_cell HP1.out 0).trans rfl
            have cx1 : w1.cell? ⟨Bx, 1, none⟩ = some (.int .i64 x.1.y) := (blk_cell HP1.out 1).trans rfl
            have cx2 : w1.cell? ⟨Bx, 2, none⟩ = some (.int .i64 x.1.n) := (blk_cell HP1.out 2).trans rfl
            have cx3 : w1.cell? ⟨Bx, 3, none⟩ = some (.int .i64 x.1.d) := (blk_cell HP1.out 3).trans rfl
            have c3 : w1.cell? ⟨s3, 0, none⟩ = some (.int .i64 limit) := (blk_cell HI31.out 0).trans rfl
            simp only []
            refine hK _ _ ?_; clear hK K
            refine wpAnyIn_ready (rs := [4]) (by kernel_rfl) (by simp) (AllReadyIn.cons rfl (fun K hK => ?_) AllReadyIn.nil)
            go_simp
            refine hK _ _ ?_; clear hK K
            refine wpAnyIn_done (by kernel_rfl) ?_ _
            exact key w1 HD.out
        · go_simp
          refine hK _ _ ?_; clear hK K
          refine wpAnyIn_ready (rs := [1]) (by kernel_rfl) (by simp) (AllReadyIn.cons rfl (fun K hK => ?_) AllReadyIn.nil)
          go_simp
          refine hK _ _ ?_; clear hK K
          refine wpAnyIn_ready (rs := [2]) (by kernel_rfl) (by simp) (AllReadyIn.cons rfl (fun K hK => ?_) AllReadyIn.nil)
          go_simp
          refine ⟨trivial, ?_⟩
          gi_at_call 90
          have hcall := CallsIn.inRound l (callsIn_wide (n := n - 1 - 1 - 1).2 (spans_value_up.calls x.1.n x.1.d (ceP x.1) W.drew HUP.out))
          with_reducible refine hcall.mono ?_
          clear hcall
          rintro e w1 ⟨rfl, hb1⟩
          clear cx0 cx1 cx2 cx3 c3
          have HP1 := Aside0.mk (blk_below (blk_drew HP.out) hb1)
          have HI31 := Aside0.mk (blk_below (blk_drew HI3.out) hb1)
          have HI41 := Aside0.mk (blk_below (blk_drew HI4.out) hb1)
          have HI51 := Aside0.mk (blk_below (blk_drew HI5.out) hb1)
          have HI61 := Aside0.mk (blk_below (blk_drew HI6.out) hb1)
          have HI71 := Aside0.mk (blk_below (blk_drew HI7.out) hb1)
          have HD := Aside0.mk hb1
          clear hb1
          have cx0 : w1.cell? ⟨Bx, 0, none⟩ = some (.int .i64 x.1.x) := (blk_cell HP1.out 0).trans rfl
          have cx1 : w1.cell? ⟨Bx, 1, none⟩ = some (.int .i64 x.1.y) := (blk_cell HP1.out 1).trans rfl
          have cx2 : w1.cell? ⟨Bx, 2, none⟩ = some (.int .i64 x.1.n) := (blk_cell HP1.out 2).trans rfl
          have cx3 : w1.cell? ⟨Bx, 3, none⟩ = some (.int .i64 x.1.d) := (blk_cell HP1.out 3).trans rfl
          have c3 : w1.cell? ⟨s3, 0, none⟩ = some (.int .i64 limit) := (blk_cell HI31.out 0).trans rfl
          simp only []
          refine hK _ _ ?_; clear hK K
          refine wpAnyIn_ready (rs := [4]) (by kernel_rfl) (by simp) (AllReadyIn.cons rfl (fun K hK => ?_) AllReadyIn.nil)
          go_simp
          refine hK _ _ ?_; clear hK K
          refine wpAnyIn_done (by kernel_rfl) ?_ _
          exact key w1 HD.out
      · go_simp
        refine hK _ _ ?_; clear hK K
        refine wpAnyIn_ready (rs := [0]) (by kernel_rfl) (by simp) (AllReadyIn.cons rfl (fun K hK => ?_) AllReadyIn.nil)
        go_simp
        refine hK _ _ ?_; clear hK K
        refine wpAnyIn_ready (rs := [1]) (by kernel_rfl) (by simp) (AllReadyIn.cons rfl (fun K hK => ?_) AllReadyIn.nil)
        go_simp
        refine hK _ _ ?_; clear hK K
        refine wpAnyIn_ready (rs := [2]) (by kernel_rfl) (by simp) (AllReadyIn.cons rfl (fun K hK => ?_) AllReadyIn.nil)
        go_simp
        refine ⟨trivial, ?_⟩
        gi_at_call 90
        have hcall := CallsIn.inRound l (callsIn_wide (n := n - 1 - 1 - 1).2 (spans_value_up.calls x.1.n x.1.d (ceP x.1) W.drew HUP.out))
        with_reducible refine hcall.mono ?_
        clear hcall
        rintro e w1 ⟨rfl, hb1⟩
        clear cx0 cx1 cx2 cx3 c3
        have HP1 := Aside0.mk (blk_below (blk_drew HP.out) hb1)
        have HI31 := Aside0.mk (blk_below (blk_drew HI3.out) hb1)
        have HI41 := Aside0.mk (blk_below (blk_drew HI4.out) hb1)
        have HI51 := Aside0.mk (blk_below (blk_drew HI5.out) hb1)
        have HI61 := Aside0.mk (blk_below (blk_drew HI6.out) hb1)
        have HI71 := Aside0.mk (blk_below (blk_drew HI7.out) hb1)
        have HD := Aside0.mk hb1
        clear hb1
        have cx0 : w1.cell? ⟨Bx, 0, none⟩ = some (.int .i64 x.1.x) := (blk_cell HP1.out 0).trans rfl
        have cx1 : w1.cell? ⟨Bx, 1, none⟩ = some (.int .i64 x.1.y) := (blk_cell HP1.out 1).trans rfl
        have cx2 : w1.cell? ⟨Bx, 2, none⟩ = some (.int .i64 x.1.n) := (blk_cell HP1.out 2).trans rfl
        have cx3 : w1.cell? ⟨Bx, 3, none⟩ = some (.int .i64 x.1.d) := (blk_cell HP1.out 3).trans rfl
        have c3 : w1.cell? ⟨s3, 0, none⟩ = some (.int .i64 limit) := (blk_cell HI31.out 0).trans rfl
        simp only []
        refine hK _ _ ?_; clear hK K
        refine wpAnyIn_ready (rs := [4]) (by kernel_rfl) (by simp) (AllReadyIn.cons rfl (fun K hK => ?_) AllReadyIn.nil)
        go_simp
        refine hK _ _ ?_; clear hK K
        refine wpAnyIn_done (by kernel_rfl) ?_ _
        exact key w1 HD.out
  case done =>
    rintro D zs W hD rfl ⟨⟨i3, i4, i5, i6, i7⟩, hBl, hpre⟩ hK
    have hres := HRES.out.symm.trans (below_eres HX.out limit)
    rw [below_none hpre] at hres
    have HRS := Aside0.mk hres
    have HI4 := Aside0.mk i4
    have HI5 := Aside0.mk i5
    have HI6 := Aside0.mk i6
    have HI7 := Aside0.mk i7
    have HBl := Aside0.mk hBl
    have HKD := Aside0.mk hK
    have HD := Aside0.mk hD
    have z4 : W.cell? ⟨s4, 0, none⟩ = some (.int .i64 0) := (blk_cell i4 0).trans rfl
    have z5 : W.cell? ⟨s5, 0, none⟩ = some (.int .i64 0) := (blk_cell i5 0).trans rfl
    have z6 : W.cell? ⟨s6, 0, none⟩ = some (.bool false) := (blk_cell i6 0).trans rfl
    have z7 : W.cell? ⟨s7, 0, none⟩ = some (.int .i64 0) := (blk_cell i7 0).trans rfl
    have f4 := blk_frozen i4 0
    have f5 := blk_frozen i5 0
    have f6 := blk_frozen i6 0
    have f7 := blk_frozen i7 0
    have n54 : ¬ (s5 = s4) := by have := HO.out; omega
    have n64 : ¬ (s6 = s4) := by have := HO.out; omega
    have n74 : ¬ (s7 = s4) := by have := HO.out; omega
    have n65 : ¬ (s6 = s5) := by have := HO.out; omega
    have n75 : ¬ (s7 = s5) := by have := HO.out; omega
    have n76 : ¬ (s7 = s6) := by have := HO.out; omega
    clear i3 i4 i5 i6 i7 hBl hpre hK hD hres hord hx
    gi_wp2
    change bodyPostM Fence.wide n Try.prog Try.f46 _ .ret _ ((((W.setCell ⟨s4, 0, none⟩ (.int .i64 0)).setCell ⟨s5, 0, none⟩ (.int .i64 0)).setCell ⟨s6, 0, none⟩ (.bool true)).setCell ⟨s7, 0, none⟩ (.int .i64 0))
    have d4 := blk_put HI4.out 0 (.int .i64 0) (cs' := #[.int .i64 0]) rfl
    have d5 := blk_put (blk_far (p := ⟨s4, 0, none⟩) HI5.out n54 (.int .i64 0)) 0 (.int .i64 0) (cs' := #[.int .i64 0]) rfl
    have d6 := blk_put (blk_far (p := ⟨s5, 0, none⟩) (blk_far (p := ⟨s4, 0, none⟩) HI6.out n64 (.int .i64 0)) n65 (.int .i64 0)) 0 (.bool true) (cs' := #[.bool true]) rfl
    have d7 := blk_put (blk_far (p := ⟨s6, 0, none⟩) (blk_far (p := ⟨s5, 0, none⟩) (blk_far (p := ⟨s4, 0, none⟩) HI7.out n74 (.int .i64 0)) n75 (.int .i64 0)) n76 (.bool true)) 0 (.int .i64 0) (cs' := #[.int .i64 0]) rfl
    have e4 := blk_far (p := ⟨s7, 0, none⟩) (blk_far (p := ⟨s6, 0, none⟩) (blk_far (p := ⟨s5, 0, none⟩) d4 (fun e => n54 e.symm) (.int .i64 0)) (fun e => n64 e.symm) (.bool true)) (fun e => n74 e.symm) (.int .i64 0)
    have e5 := blk_far (p := ⟨s7, 0, none⟩) (blk_far (p := ⟨s6, 0, none⟩) d5 (fun e => n65 e.symm) (.bool true)) (fun e => n75 e.symm) (.int .i64 0)
    have e6 := blk_far (p := ⟨s7, 0, none⟩) d6 (fun e => n76 e.symm) (.int .i64 0)
    have hKd : ((((W.setCell ⟨s4, 0, none⟩ (.int .i64 0)).setCell ⟨s5, 0, none⟩ (.int .i64 0)).setCell ⟨s6, 0, none⟩ (.bool true)).setCell ⟨s7, 0, none⟩ (.int .i64 0)).heap[D]? = some (.deferred (some [])) :=
      (((((KeepsOthers.setCell W ⟨s4, 0, none⟩ (.int .i64 0)).trans (KeepsOthers.setCell _ ⟨s5, 0, none⟩ (.int .i64 0))).trans (KeepsOthers.setCell _ ⟨s6, 0, none⟩ (.bool true))).trans (KeepsOthers.setCell _ ⟨s7, 0, none⟩ (.int .i64 0))).same D _ HKD.out rfl)
    have hb4 : Below w.heap.size w ((((W.setCell ⟨s4, 0, none⟩ (.int .i64 0)).setCell ⟨s5, 0, none⟩ (.int .i64 0)).setCell ⟨s6, 0, none⟩ (.bool true)).setCell ⟨s7, 0, none⟩ (.int .i64 0)) := below_set (below_set (below_set (below_set HBl.out (by have := HO.out; omega)) (by have := HO.out; omega)) (by have := HO.out; omega)) (by have := HO.out; omega)
    refine ⟨by simp, .inl ⟨_, _, rfl, run_takeDeferred hKd, ?_⟩⟩
    have u4 := blk_grown (row := some D) e4 (grownBy_putObj' ((((W.setCell ⟨s4, 0, none⟩ (.int .i64 0)).setCell ⟨s5, 0, none⟩ (.int .i64 0)).setCell ⟨s6, 0, none⟩ (.bool true)).setCell ⟨s7, 0, none⟩ (.int .i64 0)) D (.deferred none)) (fun e => by cases e; rw [hKd] at e4; cases e4)
    have u5 := blk_grown (row := some D) e5 (grownBy_putObj' ((((W.setCell ⟨s4, 0, none⟩ (.int .i64 0)).setCell ⟨s5, 0, none⟩ (.int .i64 0)).setCell ⟨s6, 0, none⟩ (.bool true)).setCell ⟨s7, 0, none⟩ (.int .i64 0)) D (.deferred none)) (fun e => by cases e; rw [hKd] at e5; cases e5)
    have u6 := blk_grown (row := some D) e6 (grownBy_putObj' ((((W.setCell ⟨s4, 0, none⟩ (.int .i64 0)).setCell ⟨s5, 0, none⟩ (.int .i64 0)).setCell ⟨s6, 0, none⟩ (.bool true)).setCell ⟨s7, 0, none⟩ (.int .i64 0)) D (.deferred none)) (fun e => by cases e; rw [hKd] at e6; cases e6)
    have u7 := blk_grown (row := some D) d7 (grownBy_putObj' ((((W.setCell ⟨s4, 0, none⟩ (.int .i64 0)).setCell ⟨s5, 0, none⟩ (.int .i64 0)).setCell ⟨s6, 0, none⟩ (.bool true)).setCell ⟨s7, 0, none⟩ (.int .i64 0)) D (.deferred none)) (fun e => by cases e; rw [hKd] at d7; cases d7)
    refine ⟨_, results46 _ _ s4 s5 s6 s7 0 0 0 true rfl rfl rfl rfl u4 u5 u6 u7, ⟨?_, ?_⟩⟩
    · have hq := HRS.out
      simp only [Option.some.injEq, Prod.mk.injEq] at hq
      obtain ⟨h1, h2, h3, h4⟩ := hq
      rw [h1, h2, h3, h4]
    · exact hb4.trans (belowK_b HB.out.size _ D (.deferred (some [])) (.deferred none) HD.out hKd rfl rfl)
  case stop =>
    rintro D c pre W hD hSp ⟨rfl, p0, q, rfl, h1, h2, ⟨e4, e5, e6, d7⟩, hBl⟩ hKd
    have hres := HRES.out.symm.trans (below_eres HX.out limit)
    rw [below_hit hSp h1 h2] at hres
    have HRS := Aside0.mk hres
    clear hres hord hx
    gi_wp2
    change bodyPostM Fence.wide n Try.prog Try.f46 _ .ret _ W
    refine ⟨by simp, .inl ⟨_, _, rfl, run_takeDeferred hKd, ?_⟩⟩
    have u4 := blk_grown (row := some D) e4 (grownBy_putObj' W D (.deferred none)) (fun e => by cases e; rw [hKd] at e4; cases e4)
    have u5 := blk_grown (row := some D) e5 (grownBy_putObj' W D (.deferred none)) (fun e => by cases e; rw [hKd] at e5; cases e5)
    have u6 := blk_grown (row := some D) e6 (grownBy_putObj' W D (.deferred none)) (fun e => by cases e; rw [hKd] at e6; cases e6)
    have u7 := blk_grown (row := some D) d7 (grownBy_putObj' W D (.deferred none)) (fun e => by cases e; rw [hKd] at d7; cases d7)
    refine ⟨_, results46 _ _ s4 s5 s6 s7 q.1.x q.1.y 0 false rfl rfl rfl rfl u4 u5 u6 u7, ⟨?_, ?_⟩⟩
    · have hq := HRS.out
      simp only [Option.some.injEq, Prod.mk.injEq] at hq
      obtain ⟨h1, h2, h3, h4⟩ := hq
      rw [h1, h2, h3, h4]
    · exact hBl.trans (belowK_b HB.out.size _ D (.deferred (some [])) (.deferred none) hD hKd rfl rfl)
set_option maxRecDepth 100000 in
set_option maxHeartbeats 1000000 in
theorem below_err46 (A0 : Option Addr) (c0 : Nat) (A1 : Option Addr) (c1 : Nat) (A2 : Option Addr) (c2 : Nat) (X Y : List Int) (V : List (List Int)) (a0 a1 b0 b1 limit E : Int) (he : E ≠ 0) (hE : spans_checkPoints.f X Y V a0 a1 b0 b1 = some E) (w : World)
    (hr0 : Kd.C (Kd.int .i64) w A0 X.length X) (hc0 : X.length ≤ c0) (hr1 : Kd.C (Kd.int .i64) w A1 Y.length Y) (hc1 : Y.length ≤ c1) (hr2 : Kd.C (Kd.slice 3 (Kd.int .i64)) w A2 V.length V) (hc2 : V.length ≤ c2) :
    Calls Try.prog 46 #[.agg #[.slice A0 X.length c0, .slice A1 Y.length c1, .slice A2 V.length c2], .agg #[.int .i64 a0, .int .i64 a1], .agg #[.int .i64 b0, .int .i64 b1], .int .i64 limit] w fun e w' =>
      e = .returned (.tuple #[.int .i64 0, .int .i64 0, .bool false, .int .i64 E]) ∧ Below w.heap.size w w' := by
  have HE := Aside0.mk hE
  have HR0 := Aside0.mk hr0
  have HR1 := Aside0.mk hr1
  have HR2 := Aside0.mk hr2
  clear hr0 hr1 hr2 hE
  go_enter Try.func46, Try.ntmps46
  go_wp2_with fail
  obtain ⟨W1, hW⟩ : ∃ W, w.alloc (.cells #[.slice A0 X.length c0, .slice A1 Y.length c1, .slice A2 V.length c2] 25) = W := ⟨_, rfl⟩
  have hz1 : W1.heap.size = w.heap.size + 1 := by rw [← hW, World.size_alloc]
  have k0 : W1.heap[w.heap.size]? = some (.cells #[.slice A0 X.length c0, .slice A1 Y.length c1, .slice A2 V.length c2] 25 (0, 0)) := by rw [← hW]; exact blk_new _ _
  have hb : Below w.heap.size w W1 := by rw [← hW]; exact below_alloc (Below.refl _ _) _
  rw [hW]
  clear hW
  obtain ⟨W2, hW⟩ : ∃ W, W1.alloc (.cells #[.int .i64 a0, .int .i64 a1] 27) = W := ⟨_, rfl⟩
  have hz2 : W2.heap.size = w.heap.size + 1 + 1 := by rw [← hW, World.size_alloc, hz1]
  have k1 : W2.heap[w.heap.size + 1]? = some (.cells #[.int .i64 a0, .int .i64 a1] 27 (0, 0)) := by rw [← hW, ← hz1]; exact blk_new _ _
  replace k0 : W2.heap[w.heap.size]? = some (.cells #[.slice A0 X.length c0, .slice A1 Y.length c1, .slice A2 V.length c2] 25 (0, 0)) := by rw [← hW]; exact blk_alloc k0 _
  replace hb : Below w.heap.size w W2 := by rw [← hW]; exact below_alloc hb _
  rw [hW]
  clear hW hz1
  obtain ⟨W3, hW⟩ : ∃ W, W2.alloc (.cells #[.int .i64 b0, .int .i64 b1] 27) = W := ⟨_, rfl⟩
  have hz3 : W3.heap.size = w.heap.size + 1 + 1 + 1 := by rw [← hW, World.size_alloc, hz2]
  have k2 : W3.heap[w.heap.size + 1 + 1]? = some (.cells #[.int .i64 b0, .int .i64 b1] 27 (0, 0)) := by rw [← hW, ← hz2]; exact blk_new _ _
  replace k0 : W3.heap[w.heap.size]? = some (.cells #[.slice A0 X.length c0, .slice A1 Y.length c1, .slice A2 V.length c2] 25 (0, 0)) := by rw [← hW]; exact blk_alloc k0 _
  replace k1 : W3.heap[w.heap.size + 1]? = some (.cells #[.int .i64 a0, .int .i64 a1] 27 (0, 0)) := by rw [← hW]; exact blk_alloc k1 _
  replace hb : Below w.heap.size w W3 := by rw [← hW]; exact below_alloc hb _
  rw [hW]
  clear hW hz2
  obtain ⟨W4, hW⟩ : ∃ W, W3.alloc (.cells #[.int .i64 limit] 3) = W := ⟨_, rfl⟩
  have hz4 : W4.heap.size = w.heap.size + 1 + 1 + 1 + 1 := by rw [← hW, World.size_alloc, hz3]
  have k3 : W4.heap[w.heap.size + 1 + 1 + 1]? = some (.cells #[.int .i64 limit] 3 (0, 0)) := by rw [← hW, ← hz3]; exact blk_new _ _
  replace k0 : W4.heap[w.heap.size]? = some (.cells #[.slice A0 X.length c0, .slice A1 Y.length c1, .slice A2 V.length c2] 25 (0, 0)) := by rw [← hW]; exact blk_alloc k0 _
  replace k1 : W4.heap[w.heap.size + 1]? = some (.cells #[.int .i64 a0, .int .i64 a1] 27 (0, 0)) := by rw [← hW]; exact blk_alloc k1 _
  replace k2 : W4.heap[w.heap.size + 1 + 1]? = some (.cells #[.int .i64 b0, .int .i64 b1] 27 (0, 0)) := by rw [← hW]; exact blk_alloc k2 _
  replace hb : Below w.heap.size w W4 := by rw [← hW]; exact below_alloc hb _
  rw [hW]
  clear hW hz3
  obtain ⟨W5, hW⟩ : ∃ W, W4.alloc (.cells #[.int .i64 0] 3) = W := ⟨_, rfl⟩
  have hz5 : W5.heap.size = w.heap.size + 1 + 1 + 1 + 1 + 1 := by rw [← hW, World.size_alloc, hz4]
  have k4 : W5.heap[w.heap.size + 1 + 1 + 1 + 1]? = some (.cells #[.int .i64 0] 3 (0, 0)) := by rw [← hW, ← hz4]; exact blk_new _ _
  replace k0 : W5.heap[w.heap.size]? = some (.cells #[.slice A0 X.length c0, .slice A1 Y.length c1, .slice A2 V.length c2] 25 (0, 0)) := by rw [← hW]; exact blk_alloc k0 _
  replace k1 : W5.heap[w.heap.size + 1]? = some (.cells #[.int .i64 a0, .int .i64 a1] 27 (0, 0)) := by rw [← hW]; exact blk_alloc k1 _
  replace k2 : W5.heap[w.heap.size + 1 + 1]? = some (.cells #[.int .i64 b0, .int .i64 b1] 27 (0, 0)) := by rw [← hW]; exact blk_alloc k2 _
  replace k3 : W5.heap[w.heap.size + 1 + 1 + 1]? = some (.cells #[.int .i64 limit] 3 (0, 0)) := by rw [← hW]; exact blk_alloc k3 _
  replace hb : Below w.heap.size w W5 := by rw [← hW]; exact below_alloc hb _
  rw [hW]
  clear hW hz4
  obtain ⟨W6, hW⟩ : ∃ W, W5.alloc (.cells #[.int .i64 0] 3) = W := ⟨_, rfl⟩
  have hz6 : W6.heap.size = w.heap.size + 1 + 1 + 1 + 1 + 1 + 1 := by rw [← hW, World.size_alloc, hz5]
  have k5 : W6.heap[w.heap.size + 1 + 1 + 1 + 1 + 1]? = some (.cells #[.int .i64 0] 3 (0, 0)) := by rw [← hW, ← hz5]; exact blk_new _ _
  replace k0 : W6.heap[w.heap.size]? = some (.cells #[.slice A0 X.length c0, .slice A1 Y.length c1, .slice A2 V.length c2] 25 (0, 0)) := by rw [← hW]; exact blk_alloc k0 _
  replace k1 : W6.heap[w.heap.size + 1]? = some (.cells #[.int .i64 a0, .int .i64 a1] 27 (0, 0)) := by rw [← hW]; exact blk_alloc k1 _
  replace k2 : W6.heap[w.heap.size + 1 + 1]? = some (.cells #[.int .i64 b0, .int .i64 b1] 27 (0, 0)) := by rw [← hW]; exact blk_alloc k2 _
  replace k3 : W6.heap[w.heap.size + 1 + 1 + 1]? = some (.cells #[.int .i64 limit] 3 (0, 0)) := by rw [← hW]; exact blk_alloc k3 _
  replace k4 : W6.heap[w.heap.size + 1 + 1 + 1 + 1]? = some (.cells #[.int .i64 0] 3 (0, 0)) := by rw [← hW]; exact blk_alloc k4 _
  replace hb : Below w.heap.size w W6 := by rw [← hW]; exact below_alloc hb _
  rw [hW]
  clear hW hz5
  obtain ⟨W7, hW⟩ : ∃ W, W6.alloc (.cells #[.bool false] 4) = W := ⟨_, rfl⟩
  have hz7 : W7.heap.size = w.heap.size + 1 + 1 + 1 + 1 + 1 + 1 + 1 := by rw [← hW, World.size_alloc, hz6]
  have k6 : W7.heap[w.heap.size + 1 + 1 + 1 + 1 + 1 + 1]? = some (.cells #[.bool false] 4 (0, 0)) := by rw [← hW, ← hz6]; exact blk_new _ _
  replace k0 : W7.heap[w.heap.size]? = some (.cells #[.slice A0 X.length c0, .slice A1 Y.length c1, .slice A2 V.length c2] 25 (0, 0)) := by rw [← hW]; exact blk_alloc k0 _
  replace k1 : W7.heap[w.heap.size + 1]? = some (.cells #[.int .i64 a0, .int .i64 a1] 27 (0, 0)) := by rw [← hW]; exact blk_alloc k1 _
  replace k2 : W7.heap[w.heap.size + 1 + 1]? = some (.cells #[.int .i64 b0, .int .i64 b1] 27 (0, 0)) := by rw [← hW]; exact blk_alloc k2 _
  replace k3 : W7.heap[w.heap.size + 1 + 1 + 1]? = some (.cells #[.int .i64 limit] 3 (0, 0)) := by rw [← hW]; exact blk_alloc k3 _
  replace k4 : W7.heap[w.heap.size + 1 + 1 + 1 + 1]? = some (.cells #[.int .i64 0] 3 (0, 0)) := by rw [← hW]; exact blk_alloc k4 _
  replace k5 : W7.heap[w.heap.size + 1 + 1 + 1 + 1 + 1]? = some (.cells #[.int .i64 0] 3 (0, 0)) := by rw [← hW]; exact blk_alloc k5 _
  replace hb : Below w.heap.size w W7 := by rw [← hW]; exact below_alloc hb _
  rw [hW]
  clear hW hz6
  obtain ⟨W8, hW⟩ : ∃ W, W7.alloc (.cells #[.int .i64 0] 30) = W := ⟨_, rfl⟩
  have hz8 : W8.heap.size = w.heap.size + 1 + 1 + 1 + 1 + 1 + 1 + 1 + 1 := by rw [← hW, World.size_alloc, hz7]
  have k7 : W8.heap[w.heap.size + 1 + 1 + 1 + 1 + 1 + 1 + 1]? = some (.cells #[.int .i64 0] 30 (0, 0)) := by rw [← hW, ← hz7]; exact blk_new _ _
  replace k0 : W8.heap[w.heap.size]? = some (.cells #[.slice A0 X.length c0, .slice A1 Y.length c1, .slice A2 V.length c2] 25 (0, 0)) := by rw [← hW]; exact blk_alloc k0 _
  replace k1 : W8.heap[w.heap.size + 1]? = some (.cells #[.int .i64 a0, .int .i64 a1] 27 (0, 0)) := by rw [← hW]; exact blk_alloc k1 _
  replace k2 : W8.heap[w.heap.size + 1 + 1]? = some (.cells #[.int .i64 b0, .int .i64 b1] 27 (0, 0)) := by rw [← hW]; exact blk_alloc k2 _
  replace k3 : W8.heap[w.heap.size + 1 + 1 + 1]? = some (.cells #[.int .i64 limit] 3 (0, 0)) := by rw [← hW]; exact blk_alloc k3 _
  replace k4 : W8.heap[w.heap.size + 1 + 1 + 1 + 1]? = some (.cells #[.int .i64 0] 3 (0, 0)) := by rw [← hW]; exact blk_alloc k4 _
  replace k5 : W8.heap[w.heap.size + 1 + 1 + 1 + 1 + 1]? = some (.cells #[.int .i64 0] 3 (0, 0)) := by rw [← hW]; exact blk_alloc k5 _
  replace k6 : W8.heap[w.heap.size + 1 + 1 + 1 + 1 + 1 + 1]? = some (.cells #[.bool false] 4 (0, 0)) := by rw [← hW]; exact blk_alloc k6 _
  replace hb : Below w.heap.size w W8 := by rw [← hW]; exact below_alloc hb _
  rw [hW]
  clear hW hz7
  obtain ⟨s1, e1⟩ : ∃ k, w.heap.size + 1 = k := ⟨_, rfl⟩
  obtain ⟨s2, e2⟩ : ∃ k, s1 + 1 = k := ⟨_, rfl⟩
  obtain ⟨s3, e3⟩ : ∃ k, s2 + 1 = k := ⟨_, rfl⟩
  obtain ⟨s4, e4⟩ : ∃ k, s3 + 1 = k := ⟨_, rfl⟩
  obtain ⟨s5, e5⟩ : ∃ k, s4 + 1 = k := ⟨_, rfl⟩
  obtain ⟨s6, e6⟩ : ∃ k, s5 + 1 = k := ⟨_, rfl⟩
  obtain ⟨s7, e7⟩ : ∃ k, s6 + 1 = k := ⟨_, rfl⟩
  simp only [e1, e2, e3, e4, e5, e6, e7] at k0 k1 k2 k3 k4 k5 k6 k7 hz8 ⊢
  have hord : w.heap.size < s1 ∧ s1 < s2 ∧ s2 < s3 ∧ s3 < s4 ∧ s4 < s5 ∧ s5 < s6 ∧ s6 < s7 ∧ s7 < W8.heap.size := by omega
  have HO := Aside0.mk hord
  clear e1 e2 e3 e4 e5 e6 e7 hz8 hord
  refine (spans_checkPoints.calls A0 c0 X A1 c1 Y A2 c2 V a0 a1 b0 b1 E W8 (Kd.C_below HR0.out hb) hc0 (Kd.C_below HR1.out hb) hc1 (Kd.C_below HR2.out hb) hc2 HE.out).mono ?_
  rintro e w1 ⟨rfl, hb1⟩
  have K0 := Aside0.mk (blk_below k0 hb1)
  have K1 := Aside0.mk (blk_below k1 hb1)
  have K2 := Aside0.mk (blk_below k2 hb1)
  have K3 := Aside0.mk (blk_below k3 hb1)
  have K4 := Aside0.mk (blk_below k4 hb1)
  have K5 := Aside0.mk (blk_below k5 hb1)
  have K6 := Aside0.mk (blk_below k6 hb1)
  have K7 := Aside0.mk (blk_below k7 hb1)
  have HB1 := Aside0.mk (below_step hb hb1)
  have HO1 : Aside0 (s7 < w1.heap.size) := ⟨by have := HO.out; have := hb1.size; omega⟩
  clear k0 k1 k2 k3 k4 k5 k6 k7 hb hb1
  have z4 : w1.cell? ⟨s4, 0, none⟩ = some (.int .i64 0) := (blk_cell K4.out 0).trans rfl
  have z5 : w1.cell? ⟨s5, 0, none⟩ = some (.int .i64 0) := (blk_cell K5.out 0).trans rfl
  have z6 : w1.cell? ⟨s6, 0, none⟩ = some (.bool false) := (blk_cell K6.out 0).trans rfl
  have z7 : w1.cell? ⟨s7, 0, none⟩ = some (.int .i64 0) := (blk_cell K7.out 0).trans rfl
  have f4 := blk_frozen K4.out 0
  have f5 := blk_frozen K5.out 0
  have f6 := blk_frozen K6.out 0
  have f7 := blk_frozen K7.out 0
  have n54 : ¬ (s5 = s4) := by have := HO.out; omega
  have n64 : ¬ (s6 = s4) := by have := HO.out; omega
  have n74 : ¬ (s7 = s4) := by have := HO.out; omega
  have n65 : ¬ (s6 = s5) := by have := HO.out; omega
  have n75 : ¬ (s7 = s5) := by have := HO.out; omega
  have n76 : ¬ (s7 = s6) := by have := HO.out; omega
  have he1 : (E != 0) = true := by simpa using he
  go_wp2
  have d4 := blk_put K4.out 0 (.int .i64 0) (cs' := #[.int .i64 0]) rfl
  have d5 := blk_put (blk_far (p := ⟨s4, 0, none⟩) K5.out n54 (.int .i64 0)) 0 (.int .i64 0) (cs' := #[.int .i64 0]) rfl
  have d6 := blk_put (blk_far (p := ⟨s5, 0, none⟩) (blk_far (p := ⟨s4, 0, none⟩) K6.out n64 (.int .i64 0)) n65 (.int .i64 0)) 0 (.bool false) (cs' := #[.bool false]) rfl
  have d7 := blk_put (blk_far (p := ⟨s6, 0, none⟩) (blk_far (p := ⟨s5, 0, none⟩) (blk_far (p := ⟨s4, 0, none⟩) K7.out n74 (.int .i64 0)) n75 (.int .i64 0)) n76 (.bool false)) 0 (.int .i64 E) (cs' := #[.int .i64 E]) rfl
  have e4 := blk_far (p := ⟨s7, 0, none⟩) (blk_far (p := ⟨s6, 0, none⟩) (blk_far (p := ⟨s5, 0, none⟩) d4 (fun e => n54 e.symm) (.int .i64 0)) (fun e => n64 e.symm) (.bool false)) (fun e => n74 e.symm) (.int .i64 E)
  have e5 := blk_far (p := ⟨s7, 0, none⟩) (blk_far (p := ⟨s6, 0, none⟩) d5 (fun e => n65 e.symm) (.bool false)) (fun e => n75 e.symm) (.int .i64 E)
  have e6 := blk_far (p := ⟨s7, 0, none⟩) d6 (fun e => n76 e.symm) (.int .i64 E)
  exact bodyPost_ret (results46 _ _ s4 s5 s6 s7 0 0 E false rfl rfl rfl rfl e4 e5 e6 d7) rfl ⟨rfl, below_set (below_set (below_set (below_set HB1.out (by have := HO.out; omega)) (by have := HO.out; omega)) (by have := HO.out; omega)) (by have := HO.out; omega)⟩
theorem spans_Below.calls (A0_0 : Option Addr) (c0_0 : Nat) (l0_0 : List Int) (A0_1 : Option Addr) (c0_1 : Nat) (l0_1 : List Int) (A0_2 : Option Addr) (c0_2 : Nat) (l0_2 : List (List Int)) (a1_0 : Int) (a1_1 : Int) (a2_0 : Int) (a2_1 : Int) (a3 : Int) (r1 : Int) (r2 : Int) (r3 : Bool) (r4 : Int) (w : World) (hr0_0 : Kd.C (Kd.int .i64) w A0_0 l0_0.length l0_0) (hc0_0 : l0_0.length ≤ c0_0) (hr0_1 : Kd.C (Kd.int .i64) w A0_1 l0_1.length l0_1) (hc0_1 : l0_1.length ≤ c0_1) (hr0_2 : Kd.C (Kd.slice 3 (Kd.int .i64)) w A0_2 l0_2.length l0_2) (hc0_2 : l0_2.length ≤ c0_2) (h : spans_Below.f l0_0 l0_1 l0_2 a1_0 a1_1 a2_0 a2_1 a3 = some (r1, r2, r3, r4)) :
    Calls Try.prog 46 #[.agg #[.slice A0_0 l0_0.length c0_0, .slice A0_1 l0_1.length c0_1, .slice A0_2 l0_2.length c0_2], .agg #[.int .i64 a1_0, .int .i64 a1_1], .agg #[.int .i64 a2_0, .int .i64 a2_1], .int .i64 a3] w fun e w' => e = .returned (.tuple #[.int .i64 r1, .int .i64 r2, .bool r3, .int .i64 r4]) ∧ Below w.heap.size w w' := by
  by_cases hp : pointsB l0_0 l0_1 l0_2 a1_0 a1_1 a2_0 a2_1 = true
  · exact callsIn_wide.1 (below_in 6 (Nat.le_refl _) A0_0 c0_0 A0_1 c0_1 A0_2 c0_2 l0_0 l0_1 l0_2 a1_0 a1_1 a2_0 a2_1 a3 (box2_of hp) w hr0_0 hc0_0 hr0_1 hc0_1 hr0_2 hc0_2 r1 r2 r4 r3 h)
  · have he : pointsE l0_0 l0_1 l0_2 a1_0 a1_1 a2_0 a2_1 ≠ 0 := fun e => hp ((points_iff _ _ _ _ _ _ _).1 e)
    rw [below_total] at h
    unfold belowR at h
    rw [if_neg he] at h
    simp only [Option.some.injEq, Prod.mk.injEq] at h
    obtain ⟨rfl, rfl, rfl, rfl⟩ := h
    exact below_err46 A0_0 c0_0 A0_1 c0_1 A0_2 c0_2 l0_0 l0_1 l0_2 a1_0 a1_1 a2_0 a2_1 a3 _ he (cp_total _ _ _ _ _ _ _) w hr0_0 hc0_0 hr0_1 hc0_1 hr0_2 hc0_2
end Go.Proofs.Yteodlmgmmpkpoaa.PS
end
