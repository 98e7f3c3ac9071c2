-- Printed by a program of this session out of the translation (hybrid print) and out of hand proofs. Not trusted: Lean checks it.
import Derived.Test.YteodlmgmmpkpoaaG0
section
namespace Go.Proofs.Yteodlmgmmpkpoaa.PS
set_option linter.unusedVariables false
def flP (p : Pt) : Int := p.n / p.d
def ceP (p : Pt) : Int := -((-p.n) / p.d)
def ptsR (X Y : List Int) (V : List (List Int)) (a0 a1 b0 b1 : Int) : List Pt := gridL (stopsL X a0 a1) (stopsL Y b0 b1) (ptRef X Y V)
def foldLo (l : List Pt) (a : Int) : Int := l.foldl (fun m q => min m (flP q)) a
def foldHi (l : List Pt) (a : Int) : Int := l.foldl (fun m q => max m (ceP q)) a
def headP : List Pt → Pt
  | [] => ⟨0, 0, 0, 0⟩
  | p :: _ => p
def swashplateref01_bound.f (X Y : List Int) (V : List (List Int)) (a0 a1 b0 b1 : Int) : Option (Int × Int) :=
  if pointsB X Y V a0 a1 b0 b1 = true then
    some (foldLo (ptsR X Y V a0 a1 b0 b1) (flP (headP (ptsR X Y V a0 a1 b0 b1))), foldHi (ptsR X Y V a0 a1 b0 b1) (ceP (headP (ptsR X Y V a0 a1 b0 b1))))
  else none
end Go.Proofs.Yteodlmgmmpkpoaa.PS
end
section
namespace Go.Proofs.Yteodlmgmmpkpoaa.PS
open Go.RowKit Go.Proofs.YteodlmgmmpkpoaaW.PrintWords Go.Proofs.YteodlmgmmpkpoaaW.PrintLast Go.Proofs.YteodlmgmmpkpoaaW.PrintMore
attribute [local go_sem] max2_int min2_int max_two min_two max_three min_three max_four min_four   -- for this text's walks alone
set_option linter.unusedVariables false
set_option linter.unusedSimpArgs false
def swashplateref01_floor.f (a0 : Int) (a1 : Int) : Option (Int) := if a0 ≥ 0 then (if a1 = 0 then (none) else (some (wrap64 (Int.tdiv a0 a1)))) else (if a1 = 0 then (none) else (some (wrap64 (-(wrap64 (Int.tdiv (wrap64 ((wrap64 ((wrap64 (-a0)) + a1)) - 1)) a1))))))
set_option maxHeartbeats 8000000 in
set_option maxRecDepth 100000 in
theorem swashplateref01_floor.calls (a0 : Int) (a1 : Int) (r : Int) (w : World) (h : swashplateref01_floor.f a0 a1 = some r) :
  Calls Try.prog 107 #[.int .i64 a0, .int .i64 a1] w fun e w' => e = .returned (.int .i64 r) ∧ Drawn0 w w' := by
 have H : (if a0 ≥ 0 then (if a1 = 0 then (none) else (some (wrap64 (Int.tdiv a0 a1)))) else (if a1 = 0 then (none) else (some (wrap64 (-(wrap64 (Int.tdiv (wrap64 ((wrap64 ((wrap64 (-a0)) + a1)) - 1)) a1))))))) = some r := h
 clear h
 by_cases c3 : a0 ≥ 0
 ·
  rw [if_pos c3] at H
  have c3b0 : decide (0 ≤ a0) = true := decide_eq_true c3
  clear c3
  by_cases c4 : a1 = 0
  ·
   rw [if_pos c4] at H
   exact absurd H (by simp)
  ·
   rw [if_neg c4] at H
   have c4b0 : (a1 == 0) = false := beq_eq_false_iff_ne.mpr c4
   have c4b1 : (a1 != 0) = true := bne_iff_ne.mpr c4
   obtain rfl := Option.some.inj H
   go_enter Try.func107, Try.ntmps107
   go_wp2
   go_ret
   exact ⟨by first | rfl | (simp; done) | (simp [*]; done), by repeat (first | exact Drawn0.refl _ | apply Drawn0.step)⟩
 ·
  rw [if_neg c3] at H
  have c3b0 : decide (0 ≤ a0) = false := decide_eq_false c3
  clear c3
  by_cases c5 : a1 = 0
  ·
   rw [if_pos c5] at H
   exact absurd H (by simp)
  ·
   rw [if_neg c5] at H
   have c5b0 : (a1 == 0) = false := beq_eq_false_iff_ne.mpr c5
   have c5b1 : (a1 != 0) = true := bne_iff_ne.mpr c5
   obtain rfl := Option.some.inj H
   go_enter Try.func107, Try.ntmps107
   go_wp2
   go_ret
   exact ⟨by first | rfl | (simp; done) | (simp [*]; done), by repeat (first | exact Drawn0.refl _ | apply Drawn0.step)⟩
end Go.Proofs.Yteodlmgmmpkpoaa.PS
end
section
namespace Go.Proofs.Yteodlmgmmpkpoaa.PS
open Go.RowKit Go.Proofs.YteodlmgmmpkpoaaW.PrintWords Go.Proofs.YteodlmgmmpkpoaaW.PrintLast Go.Proofs.YteodlmgmmpkpoaaW.PrintMore
attribute [local go_sem] max2_int min2_int max_two min_two max_three min_three max_four min_four   -- for this text's walks alone
set_option linter.unusedVariables false
set_option linter.unusedSimpArgs false
def swashplateref01_ceil.f (a0 : Int) (a1 : Int) : Option (Int) := (swashplateref01_floor.f (wrap64 (-a0)) a1).bind fun t181 => (some (wrap64 (-t181)))
set_option maxHeartbeats 8000000 in
set_option maxRecDepth 100000 in
theorem swashplateref01_ceil.calls (a0 : Int) (a1 : Int) (r : Int) (w : World) (h : swashplateref01_ceil.f a0 a1 = some r) :
  Calls Try.prog 108 #[.int .i64 a0, .int .i64 a1] w fun e w' => e = .returned (.int .i64 r) ∧ Drawn0 w w' := by
 have H : ((swashplateref01_floor.f (wrap64 (-a0)) a1).bind fun t181 => (some (wrap64 (-t181)))) = some r := h
 clear h
 replace H := Option.bind_eq_some_iff.mp H
 obtain ⟨t181, A30, H⟩ := H
 replace H : (some (wrap64 (-t181))) = some r := H
 have A3 := Aside0.mk A30
 clear A30
 obtain rfl := Option.some.inj H
 go_enter Try.func108, Try.ntmps108
 go_wp2_with (first | ((with_reducible refine gate_callee (f := 107) rfl ?_); refine goesL_ (some 8) rfl rfl Try.func107 (by kernel_rfl) rfl #[.int .i64 (wrap64 (-a0)), .int .i64 a1] rfl (by (try simp only [List.map_toArray, List.map_cons, List.map_nil]); first | done | rfl | (simp only [List.length_drop, List.length_take]; rfl)) ?_; (with_reducible refine (swashplateref01_floor.calls (wrap64 (-a0)) a1 t181 _ A3.out).mono ?_); rintro e w' ⟨rfl, ⟨nd, rfl⟩⟩; refine ⟨_, rfl, ?_⟩))
 go_ret
 exact ⟨by first | rfl | (simp; done) | (simp [*]; done), by repeat (first | exact Drawn0.refl _ | apply Drawn0.step)⟩
end Go.Proofs.Yteodlmgmmpkpoaa.PS
end
section
namespace Go.Proofs.Yteodlmgmmpkpoaa.PS
open Go.RowKit Go.Proofs.YteodlmgmmpkpoaaW.PrintWords Go.Proofs.YteodlmgmmpkpoaaW.PrintLast Go.Proofs.YteodlmgmmpkpoaaW.PrintMore
set_option linter.unusedVariables false
theorem ceil_total (a b : Int) (hb : 0 < b) (h0 : -4000000000000000000 ≤ a) (h1 : a ≤ 4000000000000000000) : spans_ceil.f a b = some (-((-a) / b)) := by
  unfold spans_ceil.f
  rw [wr64 (by omega) (by omega), floor_total _ _ hb (by omega) (by omega), Option.bind_some]
  have hq := ediv_bd (a := -a) hb (B := 4000000000000000000) (by omega) (by omega) (by decide)
  rw [wr64 (by omega) (by omega)]
theorem up_total (a b : Int) (hb : 0 < b) (h0 : -4000000000000000000 ≤ a) (h1 : a ≤ 4000000000000000000) : spans_value_up.f a b = some (-((-a) / b)) := by
  unfold spans_value_up.f
  rw [ceil_total _ _ hb h0 h1]
  rfl
theorem rfloor_total (a b : Int) (hb : 0 < b) (hb1 : b ≤ 1000000000000) (h0 : -4000000000000000000 ≤ a) (h1 : a ≤ 4000000000000000000) : swashplateref01_floor.f a b = some (a / b) := by
  unfold swashplateref01_floor.f
  have hq := ediv_bd hb h0 h1 (by decide)
  by_cases ha : a ≥ 0
  · rw [if_pos ha, if_neg (by omega), Int.tdiv_eq_ediv_of_nonneg ha, wr64 (by omega) (by omega)]
  · rw [if_neg ha]
    have e1 : wrap64 (wrap64 (wrap64 (-a) + b) - 1) = -a + b - 1 := by
      rw [show wrap64 (-a) = -a from wr64 (by omega) (by omega), show wrap64 (-a + b) = -a + b from wr64 (by omega) (by omega), wr64 (by omega) (by omega)]
    rw [e1, if_neg (by omega), Int.tdiv_eq_ediv_of_nonneg (by omega)]
    have e2 : (-a + b - 1) / b = -(a / b) := by
      rw [Int.ediv_eq_iff_of_pos hb]
      have := Int.mul_ediv_add_emod a b
      have hm0 := Int.emod_nonneg a (show b ≠ 0 by omega)
      have hm1 := Int.emod_lt_of_pos a hb
      have e3 : -(a / b) * b = -(b * (a / b)) := by rw [Int.neg_mul, Int.mul_comm]
      rw [e3]
      omega
    rw [e2, show wrap64 (-(a / b)) = -(a / b) from wr64 (by omega) (by omega), Int.neg_neg, wr64 (by omega) (by omega)]
theorem rceil_total (a b : Int) (hb : 0 < b) (hb1 : b ≤ 1000000000000) (h0 : -4000000000000000000 ≤ a) (h1 : a ≤ 4000000000000000000) : swashplateref01_ceil.f a b = some (-((-a) / b)) := by
  unfold swashplateref01_ceil.f
  rw [wr64 (by omega) (by omega), rfloor_total _ _ hb hb1 (by omega) (by omega), Option.bind_some]
  have hq := ediv_bd (a := -a) hb (B := 4000000000000000000) (by omega) (by omega) (by decide)
  rw [wr64 (by omega) (by omega)]
theorem rcorners_loop (l : List Int) (hl : l.length ≤ 12) (lo hi : Int) : ∀ (d k i : Nat) (acc : List Int), l.length - i = d → i ≤ l.length → d < k → acc.length ≤ 1 + i →
    swashplateref01_corners.l0 k l acc i lo hi = some ((acc ++ (l.drop i).filter (fun x => decide (lo < x) && decide (x < hi))) ++ (if lo < hi then [hi] else []))
  | d, k, i, acc, hd, hi', hk, ha => by
    obtain ⟨k, rfl⟩ : ∃ m, k = m + 1 := ⟨k - 1, by omega⟩
    simp only [swashplateref01_corners.l0]
    by_cases hlt : i < l.length
    · obtain ⟨d, rfl⟩ : ∃ m, d = m + 1 := ⟨d - 1, by omega⟩
      rw [if_pos (by omega), if_pos (by omega), rd_nat, drop_step l i hlt, List.filter_cons]
      have e1 : wrap64 ((i : Int) + 1) = ((i + 1 : Nat) : Int) := by rw [wr64 (by omega) (by omega)]; rfl
      rw [e1]
      by_cases h1 : gI l i > lo
      · rw [if_pos h1]
        by_cases h2 : gI l i < hi
        · rw [if_pos h2, if_pos (by omega)]
          rw [rcorners_loop l hl lo hi d k (i + 1) _ (by omega) (by omega) (by omega) (by simp; omega)]
          simp [h1, h2]
        · rw [if_neg h2]
          rw [rcorners_loop l hl lo hi d k (i + 1) _ (by omega) (by omega) (by omega) (by omega)]
          simp [h2]
      · rw [if_neg h1]
        rw [rcorners_loop l hl lo hi d k (i + 1) _ (by omega) (by omega) (by omega) (by omega)]
        have : ¬ lo < gI l i := by omega
        simp [this]
    · rw [if_neg (by omega), List.drop_of_length_le (by omega)]
      by_cases h1 : hi > lo
      · rw [if_pos h1, if_pos (by omega), if_pos (by omega)]; simp
      · rw [if_neg h1, if_neg (by omega)]; simp
theorem rcorners_total (l : List Int) (hl : l.length ≤ 12) (lo hi : Int) (k : Nat) (hk : 12 < k) : swashplateref01_corners.f k l lo hi = some (stopsL l lo hi) := by
  unfold swashplateref01_corners.f stopsL
  have := rcorners_loop l hl lo hi (l.length - 0) k 0 [lo] rfl (Nat.zero_le _) (by omega) (by simp)
  rw [show ((0 : Nat) : Int) = 0 from rfl] at this
  rw [this, List.drop_zero]
  rfl
end Go.Proofs.Yteodlmgmmpkpoaa.PS
end
section
namespace Go.Proofs.Yteodlmgmmpkpoaa.PS
open Go.RowKit Go.Deep Go.ChangeShapes Go.WideShapes Go.ChangeAt Go.Proofs.YteodlmgmmpkpoaaW.PrintWords
set_option linter.unusedVariables false
section
variable {H : Type} {enc : TypeId × Value → H} {w : World} {base : Nat} {held : Bool} {v : Value} {d : DataW H} {ps : List MemPlace} {r : Reach} {b0 : Nat}
set_option maxRecDepth 100000 in
theorem arg28 (hv : Value.okWide Try.prog w r b0 28 v) (h : DataW.Trod enc Try.prog w base (fun _ => true) held 28 v d ps) :
    ∃ x y : Int, v = .agg #[.int .i64 x, .int .i64 y] ∧ wfI x ∧ wfI y := by
  have hv' := hv
  unfold Value.okWide at hv'
  rw [Try.underlying28] at hv'
  obtain ⟨cs, rfl, hsz, _⟩ := hv'
  obtain ⟨c0, c1, rfl⟩ : ∃ a b, cs = #[a, b] := by
    have hs : cs.toList.length = 2 := hsz.trans (by kernel_rfl)
    match h : cs.toList, hs with
    | [a, b], _ => exact ⟨a, b, by rw [← Array.toArray_toList (xs := cs), h]⟩
  obtain ⟨fuel, hf⟩ := h
  obtain ⟨xs, m, _, _, _, hl, hx⟩ := DataW.trod_array Try.underlying28 hf
  have e3 : Try.prog.cellsOf 3 = 1 := by kernel_rfl
  have h0 := hx 0 (by omega)
  have h1 := hx 1 (by omega)
  match xs, hl with
  | [y0, y1], _ =>
    simp only [e3, Value.cells, Nat.zero_mul, Nat.one_mul, List.drop_zero, List.drop_succ_cons, List.take_succ_cons, List.take_zero, List.getElem?_cons_zero, List.getElem?_cons_succ] at h0 h1
    obtain ⟨x, hx0, _, wx⟩ := DataW.trod_int Try.underlying3 h0
    obtain ⟨y, hy0, _, wy⟩ := DataW.trod_int Try.underlying3 h1
    simp only [List.cons.injEq, and_true] at hx0 hy0
    subst hx0 hy0
    exact ⟨x, y, rfl, wx, wy⟩
end
end Go.Proofs.Yteodlmgmmpkpoaa.PS
end
section
namespace Go.Proofs.Yteodlmgmmpkpoaa.PS
set_option linter.unusedVariables false
theorem spots_meet {l : List Int} (h : Ax l) {x : Int} {i j : Nat} (a : Spot l x i) (b : Spot l x j) : i = j ∨ (j = i + 1 ∧ x = gI l j) ∨ (i = j + 1 ∧ x = gI l i) := by
  have a1 := a.lo; have a2 := a.hi; have a3 := a.lt
  have b1 := b.lo; have b2 := b.hi; have b3 := b.lt
  rcases Nat.lt_trichotomy i j with hlt | heq | hgt
  · right; left
    by_cases he : j = i + 1
    · subst he; exact ⟨rfl, by omega⟩
    · have := h.asc (i + 1) j (by omega) (by omega); omega
  · exact .inl heq
  · right; right
    by_cases he : i = j + 1
    · subst he; exact ⟨rfl, by omega⟩
    · have := h.asc (j + 1) i (by omega) (by omega); omega
theorem line_eq {l : List Int} (h : Ax l) {x : Int} {i j : Nat} (a : Spot l x i) (b : Spot l x j) (f : Nat → Int) :
    ((gI l (i + 1) - x) * f i + (x - gI l i) * f (i + 1)) * (gI l (j + 1) - gI l j) = ((gI l (j + 1) - x) * f j + (x - gI l j) * f (j + 1)) * (gI l (i + 1) - gI l i) := by
  rcases spots_meet h a b with rfl | ⟨rfl, hx⟩ | ⟨rfl, hx⟩
  · rfl
  · rw [hx]; simp only [Int.sub_self, Int.zero_mul, Int.zero_add, Int.add_zero]; grind
  · rw [hx]; simp only [Int.sub_self, Int.zero_mul, Int.zero_add, Int.add_zero]; grind
theorem numAt_x (X Y : List Int) (V : List (List Int)) (i k : Nat) (x y : Int) :
    numAt X Y V i k x y = (gI X (i + 1) - x) * ((gI Y (k + 1) - y) * gV V i k + (y - gI Y k) * gV V i (k + 1)) + (x - gI X i) * ((gI Y (k + 1) - y) * gV V (i + 1) k + (y - gI Y k) * gV V (i + 1) (k + 1)) := by
  unfold numAt; grind
theorem numAt_y (X Y : List Int) (V : List (List Int)) (i k : Nat) (x y : Int) :
    numAt X Y V i k x y = (gI Y (k + 1) - y) * ((gI X (i + 1) - x) * gV V i k + (x - gI X i) * gV V (i + 1) k) + (y - gI Y k) * ((gI X (i + 1) - x) * gV V i (k + 1) + (x - gI X i) * gV V (i + 1) (k + 1)) := by
  unfold numAt; grind
theorem frac_eq {X Y : List Int} {V : List (List Int)} (hx : Ax X) (hy : Ax Y) {x y : Int} {i i' k k' : Nat} (a : Spot X x i) (a' : Spot X x i') (b : Spot Y y k) (b' : Spot Y y k') :
    numAt X Y V i k x y * denAt X Y i' k' = numAt X Y V i' k' x y * denAt X Y i k := by
  have e1 := line_eq hx a a' (fun m => (gI Y (k + 1) - y) * gV V m k + (y - gI Y k) * gV V m (k + 1))
  have e2 := line_eq hy b b' (fun m => (gI X (i' + 1) - x) * gV V i' m + (x - gI X i') * gV V (i' + 1) m)
  rw [← numAt_x X Y V i k x y, ← numAt_x X Y V i' k x y] at e1
  rw [← numAt_y X Y V i' k x y, ← numAt_y X Y V i' k' x y] at e2
  unfold denAt
  generalize numAt X Y V i k x y = n1 at *
  generalize numAt X Y V i' k x y = n2 at *
  generalize numAt X Y V i' k' x y = n3 at *
  generalize gI X (i + 1) - gI X i = p at *
  generalize gI X (i' + 1) - gI X i' = p' at *
  generalize gI Y (k + 1) - gI Y k = q at *
  generalize gI Y (k' + 1) - gI Y k' = q' at *
  calc n1 * (p' * q') = (n1 * p') * q' := by rw [Int.mul_assoc]
    _ = (n2 * p) * q' := by rw [e1]
    _ = (n2 * q') * p := by rw [Int.mul_assoc, Int.mul_comm p q', ← Int.mul_assoc]
    _ = (n3 * q) * p := by rw [e2]
    _ = n3 * (p * q) := by rw [Int.mul_assoc, Int.mul_comm q p]
theorem div_eq {n d n' d' : Int} (hd : 0 < d) (hd' : 0 < d') (h : n * d' = n' * d) : n / d = n' / d' := by
  rw [← Int.mul_ediv_mul_of_pos_left n d hd', h, Int.mul_comm d d', Int.mul_ediv_mul_of_pos_left n' d' hd]
theorem fl_ce_eq {n d n' d' : Int} (hd : 0 < d) (hd' : 0 < d') (h : n * d' = n' * d) : n / d = n' / d' ∧ -((-n) / d) = -((-n') / d') := by
  refine ⟨div_eq hd hd' h, ?_⟩
  rw [div_eq (n := -n) (n' := -n') hd hd' (by rw [Int.neg_mul, Int.neg_mul, h])]
theorem fl_mono {n d n' d' : Int} (hd : 0 < d) (hd' : 0 < d') (h : n * d' ≤ n' * d) : n / d ≤ n' / d' := by
  rw [← Int.mul_ediv_mul_of_pos_left n d hd', ← Int.mul_ediv_mul_of_pos_left n' d' hd, Int.mul_comm d' d]
  exact Int.ediv_le_ediv (Int.mul_pos hd hd') h
end Go.Proofs.Yteodlmgmmpkpoaa.PS
end
section
namespace Go.Proofs.Yteodlmgmmpkpoaa.PS
set_option linter.unusedVariables false
theorem ce_most (m q : Pt) (hm : 0 < m.d) (hq : 0 < q.d) : ceP (if ltP m q then q else m) = max (ceP m) (ceP q) := by
  unfold ceP ltP
  by_cases h : m.n * q.d < q.n * m.d
  · rw [if_pos (by simpa using h)]
    have := fl_mono (n := -q.n) (n' := -m.n) hq hm (by rw [Int.neg_mul, Int.neg_mul]; omega)
    omega
  · rw [if_neg (by simpa using h)]
    have := fl_mono (n := -m.n) (n' := -q.n) hm hq (by rw [Int.neg_mul, Int.neg_mul]; omega)
    omega
theorem pos_pick {c : Bool} {m q : Pt} (hm : 0 < m.d) (hq : 0 < q.d) : 0 < (if c then q else m).d := by
  cases c
  · exact hm
  · exact hq
theorem ce_foldl : ∀ (l : List Pt) (m : Pt), 0 < m.d → (∀ q ∈ l, 0 < q.d) → ceP (l.foldl (fun m q => if ltP m q then q else m) m) = foldHi l (ceP m)
  | [], m, _, _ => rfl
  | q :: l, m, hm, hl => by
    have hq := hl q (by simp)
    have ih := ce_foldl l (if ltP m q then q else m) (pos_pick hm hq) (fun x hx => hl x (by simp [hx]))
    rw [List.foldl_cons, ih, ce_most m q hm hq]
    rfl
theorem ce_mostP (p : Pt) (l : List Pt) (h : ∀ q ∈ p :: l, 0 < q.d) : ceP (mostP (p :: l)) = foldHi (p :: l) (ceP p) := by
  have := ce_foldl l p (h p (by simp)) (fun q hq => h q (by simp [hq]))
  unfold mostP
  rw [this]
  unfold foldHi
  rw [List.foldl_cons, show max (ceP p) (ceP p) = ceP p by omega]
end Go.Proofs.Yteodlmgmmpkpoaa.PS
end
section
namespace Go.Proofs.Yteodlmgmmpkpoaa.PS
set_option linter.unusedVariables false
theorem foldHi_map (l : List Pt) (a : Int) : foldHi l a = (l.map ceP).foldl max a := by
  unfold foldHi; rw [List.foldl_map]
theorem grid_map {β : Type} (xs ys : List Int) (f g : Int → Int → Pt) (h : Pt → β) (he : ∀ x ∈ xs, ∀ y ∈ ys, h (f x y) = h (g x y)) : (gridL xs ys f).map h = (gridL xs ys g).map h := by
  unfold gridL
  rw [List.map_flatMap, List.map_flatMap]
  induction xs with
  | nil => rfl
  | cons a l ih =>
    rw [List.flatMap_cons, List.flatMap_cons, ih (fun x hx => he x (List.mem_cons_of_mem _ hx)), List.map_map, List.map_map]
    congr 1
    exact List.map_congr_left fun y hy => he a List.mem_cons_self y hy
theorem den_pos {X Y : List Int} (hx : Ax X) (hy : Ax Y) {i k : Nat} (hi : i + 1 < X.length) (hk : k + 1 < Y.length) : 0 < denAt X Y i k := by
  unfold denAt
  have e1 := hx.asc i (i + 1) (by omega) hi
  have e2 := hy.asc k (k + 1) (by omega) hk
  exact Int.mul_pos (by omega) (by omega)
theorem pt_eq {X Y : List Int} {V : List (List Int)} (t : Tb X Y V) {x y : Int} (hx : onB X x x = true) (hy : onB Y y y = true) : flP (ptAt X Y V x y) = flP (ptRef X Y V x y) ∧ ceP (ptAt X Y V x y) = ceP (ptRef X Y V x y) := by
  have sx := cell_spot t.ax hx
  have sx' := part_spot t.ax hx
  have sy := cell_spot t.ay hy
  have sy' := part_spot t.ay hy
  exact fl_ce_eq (den_pos t.ax t.ay sx.lt sy.lt) (den_pos t.ax t.ay sx'.lt sy'.lt) (frac_eq t.ax t.ay sx sx' sy sy')
theorem pts_eq {X Y : List Int} {V : List (List Int)} {a0 a1 b0 b1 : Int} (ht : tableB X Y V = true) (hxon : onB X a0 a1 = true) (hyon : onB Y b0 b1 = true) (hxle : a0 ≤ a1) (hyle : b0 ≤ b1) :
    (ptsL X Y V a0 a1 b0 b1).map flP = (ptsR X Y V a0 a1 b0 b1).map flP ∧ (ptsL X Y V a0 a1 b0 b1).map ceP = (ptsR X Y V a0 a1 b0 b1).map ceP :=
  ⟨grid_map _ _ _ _ _ fun x hx y hy => (pt_eq (tb_of ht) (stops_on hxon hxle hx).1 (stops_on hyon hyle hy).1).1, grid_map _ _ _ _ _ fun x hx y hy => (pt_eq (tb_of ht) (stops_on hxon hxle hx).1 (stops_on hyon hyle hy).1).2⟩
end Go.Proofs.Yteodlmgmmpkpoaa.PS
end
section
namespace Go.Proofs.Yteodlmgmmpkpoaa.PS
open Go.RowKit Go.Proofs.YteodlmgmmpkpoaaW.PrintWords Go.Proofs.YteodlmgmmpkpoaaW.PrintLast Go.Proofs.YteodlmgmmpkpoaaW.PrintMore
set_option linter.unusedVariables false
theorem spanned2 (a0 a1 b0 b1 : Int) : spans_spanned.f [⟨a0, a1⟩, ⟨b0, b1⟩] = some (if okS a0 a1 && okS b0 b1 then 0 else 10) := by
  unfold spans_spanned.f
  simp only [List.all_cons, List.all_nil, Bool.and_true]
end Go.Proofs.Yteodlmgmmpkpoaa.PS
end
section
namespace Go.Proofs.Yteodlmgmmpkpoaa.PS
open Go.RowKit Go.Proofs.YteodlmgmmpkpoaaW.PrintWords Go.Proofs.YteodlmgmmpkpoaaW.PrintLast Go.Proofs.YteodlmgmmpkpoaaW.PrintMore
set_option linter.unusedVariables false
theorem lies_total {l : List Int} (h : 2 ≤ l.length) (hl : l.length ≤ 15) (a b : Int) : spans_lies.f l a b = some (onB l a b) := by
  have e : wrap64 ((l.length : Int) - 1) = ((l.length - 1 : Nat) : Int) := by rw [wr64 (by omega) (by omega)]; omega
  have e0 : rd l 0 = gI l 0 := rd_nat l 0
  unfold spans_lies.f onB
  rw [if_pos (by omega), e0, e]
  by_cases h1 : a ≥ gI l 0
  · rw [if_pos h1, if_pos (by omega), if_pos (by omega), rd_nat, decide_eq_true (show gI l 0 ≤ a from h1), Bool.true_and]
  · rw [if_neg h1, decide_eq_false (show ¬ gI l 0 ≤ a from h1), Bool.false_and]
theorem cp_total (X Y : List Int) (V : List (List Int)) (a0 a1 b0 b1 : Int) : spans_checkPoints.f X Y V a0 a1 b0 b1 = some (pointsE X Y V a0 a1 b0 b1) := by
  unfold spans_checkPoints.f pointsE spans_CheckTable.f
  rw [Option.bind_some]
  cases ht : tableB X Y V with
  | false => rfl
  | true =>
    obtain ⟨⟨x0, x1⟩, y0, y1⟩ := tb_lens ht
    rw [if_pos rfl, if_pos rfl, if_pos rfl, spanned2, Option.bind_some]
    cases okS a0 a1 && okS b0 b1 with
    | false => rfl
    | true =>
      rw [if_pos rfl, if_pos rfl, if_pos rfl, lies_total x0 (by omega), Option.bind_some]
      cases onB X a0 a1 with
      | false => rfl
      | true =>
        rw [if_pos rfl, lies_total y0 (by omega), Option.bind_some]
        cases onB Y b0 b1 <;> rfl
structure Box2 (X Y : List Int) (V : List (List Int)) (a0 a1 b0 b1 : Int) : Prop where
  tab : tableB X Y V = true
  okx : okS a0 a1 = true
  oky : okS b0 b1 = true
  onx : onB X a0 a1 = true
  ony : onB Y b0 b1 = true
theorem box2_of {X Y : List Int} {V : List (List Int)} {a0 a1 b0 b1 : Int} (h : pointsB X Y V a0 a1 b0 b1 = true) : Box2 X Y V a0 a1 b0 b1 := by
  unfold pointsB at h
  simp only [Bool.and_eq_true] at h
  obtain ⟨⟨ht, ho0, ho1⟩, hx, hy⟩ := h
  exact ⟨ht, ho0, ho1, hx, hy⟩
theorem box2_points {X Y : List Int} {V : List (List Int)} {a0 a1 b0 b1 : Int} (h : Box2 X Y V a0 a1 b0 b1) : pointsB X Y V a0 a1 b0 b1 = true := by
  unfold pointsB
  rw [h.tab, h.okx, h.oky, h.onx, h.ony]; rfl
section
variable {X Y : List Int} {V : List (List Int)} {a0 a1 b0 b1 : Int}
theorem Box2.stx (h : Box2 X Y V a0 a1 b0 b1) {x : Int} (hx : x ∈ stopsL X a0 a1) : onB X x x = true ∧ a0 ≤ x ∧ x ≤ a1 := stops_on h.onx (okS_le h.okx) hx
theorem Box2.sty (h : Box2 X Y V a0 a1 b0 b1) {y : Int} (hy : y ∈ stopsL Y b0 b1) : onB Y y y = true ∧ b0 ≤ y ∧ y ≤ b1 := stops_on h.ony (okS_le h.oky) hy
theorem good_at (t : tableB X Y V = true) {x y : Int} (hx : onB X x x = true) (hy : onB Y y y = true) : GoodP (ptAt X Y V x y) := good_pt (tb_of t) (cell_spot (tb_of t).ax hx) (cell_spot (tb_of t).ay hy)
theorem good_ref (t : tableB X Y V = true) {x y : Int} (hx : onB X x x = true) (hy : onB Y y y = true) : GoodP (ptRef X Y V x y) := good_pt (tb_of t) (part_spot (tb_of t).ax hx) (part_spot (tb_of t).ay hy)
theorem grid_mem {xs ys : List Int} {f : Int → Int → Pt} {q : Pt} (h : q ∈ gridL xs ys f) : ∃ x ∈ xs, ∃ y ∈ ys, q = f x y := by
  unfold gridL at h
  rw [List.mem_flatMap] at h
  obtain ⟨x, hx, hq⟩ := h
  rw [List.mem_map] at hq
  obtain ⟨y, hy, rfl⟩ := hq
  exact ⟨x, hx, y, hy, rfl⟩
theorem Box2.goodL (h : Box2 X Y V a0 a1 b0 b1) {q : Pt} (hq : q ∈ ptsL X Y V a0 a1 b0 b1) : GoodP q := by
  obtain ⟨x, hx, y, hy, rfl⟩ := grid_mem hq
  exact good_at h.tab (h.stx hx).1 (h.sty hy).1
theorem stops_cons (l : List Int) (lo hi : Int) : ∃ r, stopsL l lo hi = lo :: r := ⟨_, rfl⟩
theorem grid_cons (X Y : List Int) (a0 a1 b0 b1 : Int) (f : Int → Int → Pt) : ∃ r, gridL (stopsL X a0 a1) (stopsL Y b0 b1) f = f a0 b0 :: r := by
  obtain ⟨r, hr⟩ := stops_cons X a0 a1
  obtain ⟨s, hs⟩ := stops_cons Y b0 b1
  rw [hr, hs]
  exact ⟨_, rfl⟩
theorem pick_mem (f : Pt → Pt → Bool) : ∀ (l : List Pt) (a : Pt), l.foldl (fun m q => if f m q then q else m) a = a ∨ l.foldl (fun m q => if f m q then q else m) a ∈ l
  | [], a => .inl rfl
  | b :: l, a => by
    rw [List.foldl_cons]
    rcases pick_mem f l (if f a b then b else a) with h | h
    · by_cases hf : f a b = true
      · rw [if_pos hf] at h ⊢; exact .inr (by rw [h]; simp)
      · rw [if_neg hf] at h ⊢; exact .inl h
    · exact .inr (List.mem_cons_of_mem _ h)
theorem most_mem (p : Pt) (l : List Pt) : mostP (p :: l) ∈ p :: l := by
  change l.foldl (fun m q => if ltP m q then q else m) p ∈ p :: l
  rcases pick_mem (fun m q => ltP m q) l p with h | h
  · rw [h]; simp
  · exact List.mem_cons_of_mem _ h
theorem Box2.most_in (h : Box2 X Y V a0 a1 b0 b1) : mostP (ptsL X Y V a0 a1 b0 b1) ∈ ptsL X Y V a0 a1 b0 b1 := by
  obtain ⟨r, hr⟩ := grid_cons X Y a0 a1 b0 b1 (ptAt X Y V)
  unfold ptsL; rw [hr]; exact most_mem _ _
theorem Box2.hi_eq (h : Box2 X Y V a0 a1 b0 b1) : ceP (mostP (ptsL X Y V a0 a1 b0 b1)) = foldHi (ptsR X Y V a0 a1 b0 b1) (ceP (headP (ptsR X Y V a0 a1 b0 b1))) := by
  have he := (pts_eq h.tab h.onx h.ony (okS_le h.okx) (okS_le h.oky)).2
  obtain ⟨r, hr⟩ := grid_cons X Y a0 a1 b0 b1 (ptAt X Y V)
  obtain ⟨s, hs⟩ := grid_cons X Y a0 a1 b0 b1 (ptRef X Y V)
  have hg : ∀ q ∈ ptsL X Y V a0 a1 b0 b1, 0 < q.d := fun q hq => (h.goodL hq).1
  unfold ptsL ptsR at *
  rw [hr] at he hg ⊢
  rw [hs] at he ⊢
  rw [ce_mostP _ _ hg, foldHi_map, foldHi_map, he]
  simp only [List.map_cons, List.cons.injEq] at he
  rw [he.1]; rfl
theorem ext_total (h : Box2 X Y V a0 a1 b0 b1) : spans_extremes.f X Y V a0 a1 b0 b1 =
    some ((leastP (ptsL X Y V a0 a1 b0 b1)).x, (leastP (ptsL X Y V a0 a1 b0 b1)).y, (leastP (ptsL X Y V a0 a1 b0 b1)).n, (leastP (ptsL X Y V a0 a1 b0 b1)).d,
      (mostP (ptsL X Y V a0 a1 b0 b1)).x, (mostP (ptsL X Y V a0 a1 b0 b1)).y, (mostP (ptsL X Y V a0 a1 b0 b1)).n, (mostP (ptsL X Y V a0 a1 b0 b1)).d) := by
  unfold spans_extremes.f
  rw [if_pos (box2_points h)]
theorem good_up {p : Pt} (h : GoodP p) : spans_value_up.f p.n p.d = some (ceP p) := by
  obtain ⟨h1, h2, h3, h4⟩ := h
  exact up_total _ _ h1 (by omega) (by omega)
theorem good_rfl {p : Pt} (h : GoodP p) : swashplateref01_floor.f p.n p.d = some (flP p) := by
  obtain ⟨h1, h2, h3, h4⟩ := h
  exact rfloor_total _ _ h1 (by omega) (by omega) (by omega)
theorem good_rce {p : Pt} (h : GoodP p) : swashplateref01_ceil.f p.n p.d = some (ceP p) := by
  obtain ⟨h1, h2, h3, h4⟩ := h
  exact rceil_total _ _ h1 (by omega) (by omega) (by omega)
end
theorem value_total {X Y : List Int} {V : List (List Int)} (ht : tableB X Y V = true) {x y : Int} (hx : onB X x x = true) (hy : onB Y y y = true) : swashplateref01_Value.f X Y V x y = some ((ptRef X Y V x y).n, (ptRef X Y V x y).d) := by
  unfold swashplateref01_Value.f
  rw [ht, hx, hy]; rfl
end Go.Proofs.Yteodlmgmmpkpoaa.PS
end
section
namespace Go.Proofs.Yteodlmgmmpkpoaa.PS
open Go.RowKit Go.Proofs.YteodlmgmmpkpoaaW.PrintWords Go.Proofs.YteodlmgmmpkpoaaW.PrintLast Go.Proofs.YteodlmgmmpkpoaaW.PrintMore
attribute [local go_sem] max2_int min2_int max_two min_two max_three min_three max_four min_four   -- for this text's walks alone
set_option linter.unusedVariables false
set_option linter.unusedSimpArgs false
mutual
def swashplateref01_boundP.l0 : Nat → List Int → List Int → Int → List Int → List Int → List (List Int) → Int → Int → Option (Int × Int)
 | 0, _, _, _, _, _, _, _, _ => none
 | k + 1, x7, x8, x12, x406000, x406001, x406002, x422000, x422001 => if x12 < (x7.length : Int) then (swashplateref01_boundP.l1 k x7 x8 x12 0 x406000 x406001 x406002 x422000 x422001) else (some (x422000, x422001))
def swashplateref01_boundP.l1 : Nat → List Int → List Int → Int → Int → List Int → List Int → List (List Int) → Int → Int → Option (Int × Int)
 | 0, _, _, _, _, _, _, _, _, _ => none
 | k + 1, x7, x8, x12, x13, x406000, x406001, x406002, x422000, x422001 => if x13 < (x8.length : Int) then (if 0 ≤ x12 then (if x12 < (x7.length : Int) then (if 0 ≤ x13 then ((swashplateref01_Value.f x406000 x406001 x406002 (rd x7 x12) (rd x8 x13)).bind fun bt424 => ((swashplateref01_floor.f bt424.1 bt424.2).bind fun t426 => ((swashplateref01_ceil.f bt424.1 bt424.2).bind fun t427 => (swashplateref01_boundP.l1 k x7 x8 x12 (wrap64 (x13 + 1)) x406000 x406001 x406002 (mn x422000 t426) (mx x422001 t427))))) else (none)) else (none)) else (none)) else (swashplateref01_boundP.l0 k x7 x8 (wrap64 (x12 + 1)) x406000 x406001 x406002 x422000 x422001)
end
def swashplateref01_boundP.f (k : Nat) (l0_0 : List Int) (l0_1 : List Int) (l0_2 : List (List Int)) (a1_0 : Int) (a1_1 : Int) (a2_0 : Int) (a2_1 : Int) : Option (Int × Int) := (swashplateref01_corners.f k l0_0 a1_0 a1_1).bind fun t409 => ((swashplateref01_corners.f k l0_1 a2_0 a2_1).bind fun t412 => (if 0 < (t409.length : Int) then (if 0 < (t412.length : Int) then ((swashplateref01_Value.f l0_0 l0_1 l0_2 (rd t409 0) (rd t412 0)).bind fun bt417 => ((swashplateref01_floor.f bt417.1 bt417.2).bind fun t419 => ((swashplateref01_ceil.f bt417.1 bt417.2).bind fun t420 => (swashplateref01_boundP.l0 k t409 t412 0 l0_0 l0_1 l0_2 t419 t420)))) else (none)) else (none)))
def swashplateref01_boundP.T1 : Bool × List (List Nat × List Nat) := (true, [([], []), ([0], [0]), ([], []), ([1, 2], [1, 2]), ([], []), ([4], [4]), ([], []), ([5, 6, 3], [5, 6]), ([3, 7, 0, 1, 2, 3], [3]), ([7, 8, 0, 1, 2, 3, 4, 5, 6, 7, 8], [7])])
def swashplateref01_boundP.B1 : List Nat := [0, 1, 0, 7, 0, 16, 0, 127, 255, 511]
theorem swashplateref01_boundP.tab1 : rtab .any (opsOf Try.f92 1) = swashplateref01_boundP.T1 := by kernel_rfl
theorem swashplateref01_boundP.bits1 : waitsOk swashplateref01_boundP.T1.2 swashplateref01_boundP.B1 = true := by kernel_rfl
def swashplateref01_boundP.T2 : Bool × List (List Nat × List Nat) := (true, [([], []), ([], []), ([1], [1]), ([2], [2]), ([], []), ([4], [4]), ([5], [5]), ([0, 3, 6], [0, 3, 6]), ([7], [7]), ([8], [8]), ([8], [8]), ([9, 7, 0, 1, 2, 3, 4, 5, 6, 7, 8, 9], [9]), ([10, 11, 0, 1, 2, 3, 4, 5, 6, 7, 8, 9, 10, 11], [10])])
def swashplateref01_boundP.B2 : List Nat := [0, 0, 2, 6, 0, 16, 48, 127, 255, 511, 511, 1023, 4095]
theorem swashplateref01_boundP.tab2 : rtab .any (opsOf Try.f92 2) = swashplateref01_boundP.T2 := by kernel_rfl
theorem swashplateref01_boundP.bits2 : waitsOk swashplateref01_boundP.T2.2 swashplateref01_boundP.B2 = true := by kernel_rfl
def swashplateref01_boundP.T10 : Bool × List (List Nat × List Nat) := (true, [([], []), ([], []), ([], []), ([1, 2], [1, 2]), ([3], [3]), ([], []), ([], []), ([5, 6], [5, 6]), ([7], [7]), ([0, 4, 8], [0, 4, 8]), ([9], [9]), ([10], [10]), ([10], [10]), ([11, 9, 0, 1, 2, 3, 4, 5, 6, 7, 8, 9, 10, 11], [11]), ([12, 13, 0, 1, 2, 3, 4, 5, 6, 7, 8, 9, 10, 11, 12, 13], [12])])
def swashplateref01_boundP.B10 : List Nat := [0, 0, 0, 6, 14, 0, 0, 96, 224, 511, 1023, 2047, 2047, 4095, 16383]
theorem swashplateref01_boundP.tab10 : rtab .any (opsOf Try.f92 10) = swashplateref01_boundP.T10 := by kernel_rfl
theorem swashplateref01_boundP.bits10 : waitsOk swashplateref01_boundP.T10.2 swashplateref01_boundP.B10 = true := by kernel_rfl
def swashplateref01_boundP.T11 : Bool × List (List Nat × List Nat) := (true, [([], []), ([0], [0]), ([], []), ([], []), ([2, 3], [2, 3]), ([1, 4], [1, 4]), ([0, 1, 2, 3, 4, 5], []), ([6, 5, 4, 0, 1, 2, 3, 4, 5], [5, 6])])
def swashplateref01_boundP.B11 : List Nat := [0, 1, 0, 0, 12, 31, 63, 127]
theorem swashplateref01_boundP.tab11 : rtab .any (opsOf Try.f92 11) = swashplateref01_boundP.T11 := by kernel_rfl
theorem swashplateref01_boundP.bits11 : waitsOk swashplateref01_boundP.T11.2 swashplateref01_boundP.B11 = true := by kernel_rfl
def swashplateref01_boundP.T12 : Bool × List (List Nat × List Nat) := (true, [([], []), ([0], [0]), ([], []), ([], []), ([2, 3], [2, 3]), ([1, 4], [1, 4]), ([0, 1, 2, 3, 4, 5], []), ([6, 5, 4, 0, 1, 2, 3, 4, 5], [5, 6])])
def swashplateref01_boundP.B12 : List Nat := [0, 1, 0, 0, 12, 31, 63, 127]
theorem swashplateref01_boundP.tab12 : rtab .any (opsOf Try.f92 12) = swashplateref01_boundP.T12 := by kernel_rfl
theorem swashplateref01_boundP.bits12 : waitsOk swashplateref01_boundP.T12.2 swashplateref01_boundP.B12 = true := by kernel_rfl
set_option maxHeartbeats 8000000 in
set_option maxRecDepth 100000 in
theorem swashplateref01_boundP.calls (k : Nat) (A0_0 : Option Addr) (c0_0 : Nat) (l0_0 : List Int) (A0_1 : Option Addr) (c0_1 : Nat) (l0_1 : List Int) (A0_2 : Option Addr) (c0_2 : Nat) (l0_2 : List (List Int)) (a1_0 : Int) (a1_1 : Int) (a2_0 : Int) (a2_1 : Int) (r1 : Int) (r2 : Int) (w : World) (hr0_0 : Kd.C (Kd.int .i64) w A0_0 l0_0.length l0_0) (hc0_0 : l0_0.length ≤ c0_0) (hr0_1 : Kd.C (Kd.int .i64) w A0_1 l0_1.length l0_1) (hc0_1 : l0_1.length ≤ c0_1) (hr0_2 : Kd.C (Kd.slice 3 (Kd.int .i64)) w A0_2 l0_2.length l0_2) (hc0_2 : l0_2.length ≤ c0_2) (h : swashplateref01_boundP.f k l0_0 l0_1 l0_2 a1_0 a1_1 a2_0 a2_1 = some (r1, r2)) :
  Calls Try.prog 92 #[.agg #[.slice A0_0 l0_0.length c0_0, .slice A0_1 l0_1.length c0_1, .slice A0_2 l0_2.length c0_2], .agg #[.int .i64 a1_0, .int .i64 a1_1], .agg #[.int .i64 a2_0, .int .i64 a2_1]] w fun e w' => e = .returned (.agg #[.int .i64 r1, .int .i64 r2]) ∧ Below w.heap.size w w' := by
 have hu25 := Try.underlying25
 have hu27 := Try.underlying27
 have HR0_0 := Aside0.mk hr0_0
 have HC0_0 := Aside0.mk hc0_0
 clear hr0_0 hc0_0
 have HR0_1 := Aside0.mk hr0_1
 have HC0_1 := Aside0.mk hc0_1
 clear hr0_1 hc0_1
 have HR0_2 := Aside0.mk hr0_2
 have HC0_2 := Aside0.mk hc0_2
 clear hr0_2 hc0_2
 have HB := Aside0.mk (Below.refl w.heap.size w)
 have H : ((swashplateref01_corners.f k l0_0 a1_0 a1_1).bind fun t409 => ((swashplateref01_corners.f k l0_1 a2_0 a2_1).bind fun t412 => (if 0 < (t409.length : Int) then (if 0 < (t412.length : Int) then ((swashplateref01_Value.f l0_0 l0_1 l0_2 (rd t409 0) (rd t412 0)).bind fun bt417 => ((swashplateref01_floor.f bt417.1 bt417.2).bind fun t419 => ((swashplateref01_ceil.f bt417.1 bt417.2).bind fun t420 => (swashplateref01_boundP.l0 k t409 t412 0 l0_0 l0_1 l0_2 t419 t420)))) else (none)) else (none)))) = some (r1, r2) := h
 clear h
 replace H := Option.bind_eq_some_iff.mp H
 obtain ⟨t409, A40, H⟩ := H
 replace H : ((swashplateref01_corners.f k l0_1 a2_0 a2_1).bind fun t412 => (if 0 < (t409.length : Int) then (if 0 < (t412.length : Int) then ((swashplateref01_Value.f l0_0 l0_1 l0_2 (rd t409 0) (rd t412 0)).bind fun bt417 => ((swashplateref01_floor.f bt417.1 bt417.2).bind fun t419 => ((swashplateref01_ceil.f bt417.1 bt417.2).bind fun t420 => (swashplateref01_boundP.l0 k t409 t412 0 l0_0 l0_1 l0_2 t419 t420)))) else (none)) else (none))) = some (r1, r2) := H
 have A4 := Aside0.mk A40
 clear A40
 replace H := Option.bind_eq_some_iff.mp H
 obtain ⟨t412, A50, H⟩ := H
 replace H : (if 0 < (t409.length : Int) then (if 0 < (t412.length : Int) then ((swashplateref01_Value.f l0_0 l0_1 l0_2 (rd t409 0) (rd t412 0)).bind fun bt417 => ((swashplateref01_floor.f bt417.1 bt417.2).bind fun t419 => ((swashplateref01_ceil.f bt417.1 bt417.2).bind fun t420 => (swashplateref01_boundP.l0 k t409 t412 0 l0_0 l0_1 l0_2 t419 t420)))) else (none)) else (none)) = some (r1, r2) := H
 have A5 := Aside0.mk A50
 clear A50
 by_cases c6 : 0 < (t409.length : Int)
 ·
  rw [if_pos c6] at H
  have c6b0 : decide (0 < (t409.length : Int)) = true := decide_eq_true c6
  have c6b1 : decide (0 < t409.length) = true := decide_eq_true (by omega)
  clear c6
  by_cases c7 : 0 < (t412.length : Int)
  ·
   rw [if_pos c7] at H
   have c7b0 : decide (0 < (t412.length : Int)) = true := decide_eq_true c7
   have c7b1 : decide (0 < t412.length) = true := decide_eq_true (by omega)
   clear c7
   replace H := Option.bind_eq_some_iff.mp H
   obtain ⟨⟨t417, t418⟩, A80, H⟩ := H
   replace H : ((swashplateref01_floor.f t417 t418).bind fun t419 => ((swashplateref01_ceil.f t417 t418).bind fun t420 => (swashplateref01_boundP.l0 k t409 t412 0 l0_0 l0_1 l0_2 t419 t420))) = some (r1, r2) := H
   have A8 := Aside0.mk A80
   clear A80
   replace H := Option.bind_eq_some_iff.mp H
   obtain ⟨t419, A90, H⟩ := H
   replace H : ((swashplateref01_ceil.f t417 t418).bind fun t420 => (swashplateref01_boundP.l0 k t409 t412 0 l0_0 l0_1 l0_2 t419 t420)) = some (r1, r2) := H
   have A9 := Aside0.mk A90
   clear A90
   replace H := Option.bind_eq_some_iff.mp H
   obtain ⟨t420, A100, H⟩ := H
   replace H : (swashplateref01_boundP.l0 k t409 t412 0 l0_0 l0_1 l0_2 t419 t420) = some (r1, r2) := H
   have A10 := Aside0.mk A100
   clear A100
   have H' := Aside0.mk H
   clear H
   go_enter Try.func92, Try.ntmps92
   try go_wp2_with (first | ((with_reducible refine gate_dst (N := 3) rfl ?_); refine box_event ?hg (N := 3) ?hd (cs := #[.slice A0_0 l0_0.length c0_0, .slice A0_1 l0_1.length c0_1, .slice A0_2 l0_2.length c0_2]) (t := 25) ?hr ?_; (case hd => rfl); (case hg => rfl); (case hr => first | (go_simp; done) | (go_simp; rfl)); intro gb405 hg w11 hbox hb; have n0_ := Aside0.mk (below_step (bl_ HB.out) hb); have n1_ := Aside0.mk (hbox); have n2_ := Aside0.mk (szl_ hg HB.out); have n3_ := Aside0.mk (szl_ hg HB.out); clear HB; have HB := n0_; have BK405 := n1_; have GW405 := n2_; have GE405 := n3_; clear n0_ n1_ n2_ n3_ hb hbox hg) | ((with_reducible refine gate_dst (N := 4) rfl ?_); refine box_event ?hg (N := 4) ?hd (cs := #[.int .i64 a1_0, .int .i64 a1_1]) (t := 27) ?hr ?_; (case hd => rfl); (case hg => rfl); (case hr => first | (go_simp; done) | (go_simp; rfl)); intro gb406 hg w12 hbox hb; have n0_ := Aside0.mk (blk_below (bk_ BK405.out) hb); have n1_ := Aside0.mk (below_step (bl_ HB.out) hb); have n2_ := Aside0.mk (hbox); have n3_ := Aside0.mk (szl_ hg HB.out); have n4_ := Aside0.mk (szl_ hg HB.out); have n5_ := Aside0.mk (nel_ hg BK405.out); have n6_ := Aside0.mk (ner_ hg BK405.out); clear BK405 HB; have BK405 := n0_; have HB := n1_; have BK406 := n2_; have GW406 := n3_; have GE406 := n4_; have NB405_406 := n5_; have NB406_405 := n6_; clear n0_ n1_ n2_ n3_ n4_ n5_ n6_ hb hbox hg) | ((with_reducible refine gate_dst (N := 5) rfl ?_); refine box_event ?hg (N := 5) ?hd (cs := #[.int .i64 a2_0, .int .i64 a2_1]) (t := 27) ?hr ?_; (case hd => rfl); (case hg => rfl); (case hr => first | (go_simp; done) | (go_simp; rfl)); intro gb407 hg w13 hbox hb; have n0_ := Aside0.mk (blk_below (bk_ BK405.out) hb); have n1_ := Aside0.mk (blk_below (bk_ BK406.out) hb); have n2_ := Aside0.mk (below_step (bl_ HB.out) hb); have n3_ := Aside0.mk (hbox); have n4_ := Aside0.mk (szl_ hg HB.out); have n5_ := Aside0.mk (szl_ hg HB.out); have n6_ := Aside0.mk (nel_ hg BK405.out); have n7_ := Aside0.mk (ner_ hg BK405.out); have n8_ := Aside0.mk (nel_ hg BK406.out); have n9_ := Aside0.mk (ner_ hg BK406.out); clear BK405 BK406 HB; have BK405 := n0_; have BK406 := n1_; have HB := n2_; have BK407 := n3_; have GW407 := n4_; have GE407 := n5_; have NB405_407 := n6_; have NB407_405 := n7_; have NB406_407 := n8_; have NB407_406 := n9_; clear n0_ n1_ n2_ n3_ n4_ n5_ n6_ n7_ n8_ n9_ hb hbox hg) | ((with_reducible refine gate_dst (N := 6) rfl ?_); refine box_event ?hg (N := 6) ?hd (cs := #[.int .i64 0, .int .i64 0]) (t := 27) ?hr ?_; (case hd => rfl); (case hg => rfl); (case hr => first | (go_simp; done) | (go_simp; rfl)); intro gb408 hg w14 hbox hb; have n0_ := Aside0.mk (blk_below (bk_ BK405.out) hb); have n1_ := Aside0.mk (blk_below (bk_ BK406.out) hb); have n2_ := Aside0.mk (blk_below (bk_ BK407.out) hb); have n3_ := Aside0.mk (below_step (bl_ HB.out) hb); have n4_ := Aside0.mk (hbox); have n5_ := Aside0.mk (szl_ hg HB.out); have n6_ := Aside0.mk (szl_ hg HB.out); have n7_ := Aside0.mk (nel_ hg BK405.out); have n8_ := Aside0.mk (ner_ hg BK405.out); have n9_ := Aside0.mk (nel_ hg BK406.out); have n10_ := Aside0.mk (ner_ hg BK406.out); have n11_ := Aside0.mk (nel_ hg BK407.out); have n12_ := Aside0.mk (ner_ hg BK407.out); clear BK405 BK406 BK407 HB; have BK405 := n0_; have BK406 := n1_; have BK407 := n2_; have HB := n3_; have BK408 := n4_; have GW408 := n5_; have GE408 := n6_; have NB405_408 := n7_; have NB408_405 := n8_; have NB406_408 := n9_; have NB408_406 := n10_; have NB407_408 := n11_; have NB408_407 := n12_; clear n0_ n1_ n2_ n3_ n4_ n5_ n6_ n7_ n8_ n9_ n10_ n11_ n12_ hb hbox hg))
   have n0_ := Aside0.mk (blk_drew BK405.out)
   have n1_ := Aside0.mk (blk_drew BK406.out)
   have n2_ := Aside0.mk (blk_drew BK407.out)
   have n3_ := Aside0.mk (blk_drew BK408.out)
   have n4_ := Aside0.mk (below_drew1 HB.out)
   clear BK405 BK406 BK407 BK408 HB
   have BK405 := n0_
   have BK406 := n1_
   have BK407 := n2_
   have BK408 := n3_
   have HB := n4_
   clear n0_ n1_ n2_ n3_ n4_
   refine start_ (n := 10) (S := fun w' => w'.cell? ⟨gb405, 0, none⟩ = some (.slice A0_0 l0_0.length c0_0) ∧ w'.cell? ⟨gb405, 1, none⟩ = some (.slice A0_1 l0_1.length c0_1) ∧ w'.cell? ⟨gb405, 2, none⟩ = some (.slice A0_2 l0_2.length c0_2) ∧ w'.cell? ⟨gb406, 0, none⟩ = some (.int .i64 a1_0) ∧ w'.cell? ⟨gb406, 1, none⟩ = some (.int .i64 a1_1) ∧ w'.cell? ⟨gb407, 0, none⟩ = some (.int .i64 a2_0) ∧ w'.cell? ⟨gb407, 1, none⟩ = some (.int .i64 a2_1)) (ds := []) #[false, false, false, false, false, false, false, false, false, false] (by kernel_rfl) rfl rfl ⟨(blk_cell BK405.out 0).trans rfl, (blk_cell BK405.out 1).trans rfl, (blk_cell BK405.out 2).trans rfl, (blk_cell BK406.out 0).trans rfl, (blk_cell BK406.out 1).trans rfl, (blk_cell BK407.out 0).trans rfl, (blk_cell BK407.out 1).trans rfl⟩ (fun hHeld => ?_); refine with_tabW swashplateref01_boundP.tab1 swashplateref01_boundP.bits1 (fun HT_ HW_ => ?_)
   generalize w14.drew = w15 at BK405 BK406 BK407 BK408 HB hHeld ⊢
   refine pure_ (i := 0) (N := some 14) (v := ?_) (a' := ?_) #[true, false, false, false, false, false, false, false, false, false] rfl rfl (any_of HT_.out (by kernel_rfl)) (fun _ _ _ h => h) (Or.inl ⟨by rfl, ?_⟩) ?_ ?_
   rotate_left
   ·
    intro w'
    go_simp
    with_reducible rfl
   rotate_left
   ·
    simp only [Act.put, List.setIfInBounds_toArray, List.set_cons_zero, List.set_cons_succ, i64_w, i32_w]
    rfl
   refine pure_ (i := 4) (N := some 18) (v := ?_) (a' := ?_) #[true, false, false, false, true, false, false, false, false, false] rfl rfl (any_of HT_.out (by kernel_rfl)) (fun _ _ _ h => h) (Or.inl ⟨by rfl, ?_⟩) ?_ ?_
   rotate_left
   ·
    intro w'
    go_simp
    with_reducible rfl
   rotate_left
   ·
    simp only [Act.put, List.setIfInBounds_toArray, List.set_cons_zero, List.set_cons_succ, i64_w, i32_w]
    rfl
   refine take_ (i := 1) (N := some 15) (v := ?_) (a' := ?_) #[true, true, false, false, true, false, false, false, false, false] rfl rfl (take_ofW HT_.out HW_.out (by kernel_rfl)) (fun _ _ _ h => h) (Or.inl ⟨by rfl, ?_⟩) hHeld ?_ ?_
   rotate_left
   ·
    rintro w' ⟨s0, s1, s2, s3, s4, s5, s6⟩
    go_simp
    with_reducible rfl
   rotate_left
   ·
    simp only [Act.put, List.setIfInBounds_toArray, List.set_cons_zero, List.set_cons_succ, i64_w, i32_w]
    rfl
   refine take_ (i := 2) (N := some 16) (v := ?_) (a' := ?_) #[true, true, true, false, true, false, false, false, false, false] rfl rfl (take_ofW HT_.out HW_.out (by kernel_rfl)) (fun _ _ _ h => h) (Or.inl ⟨by rfl, ?_⟩) hHeld ?_ ?_
   rotate_left
   ·
    rintro w' ⟨s0, s1, s2, s3, s4, s5, s6⟩
    go_simp
    with_reducible rfl
   rotate_left
   ·
    simp only [Act.put, List.setIfInBounds_toArray, List.set_cons_zero, List.set_cons_succ, i64_w, i32_w]
    rfl
   refine take_ (i := 5) (N := some 19) (v := ?_) (a' := ?_) #[true, true, true, false, true, true, false, false, false, false] rfl rfl (take_ofW HT_.out HW_.out (by kernel_rfl)) (fun _ _ _ h => h) (Or.inl ⟨by rfl, ?_⟩) hHeld ?_ ?_
   rotate_left
   ·
    rintro w' ⟨s0, s1, s2, s3, s4, s5, s6⟩
    go_simp
    with_reducible rfl
   rotate_left
   ·
    simp only [Act.put, List.setIfInBounds_toArray, List.set_cons_zero, List.set_cons_succ, i64_w, i32_w]
    rfl
   refine take_ (i := 6) (N := some 20) (v := ?_) (a' := ?_) #[true, true, true, false, true, true, true, false, false, false] rfl rfl (take_ofW HT_.out HW_.out (by kernel_rfl)) (fun _ _ _ h => h) (Or.inl ⟨by rfl, ?_⟩) hHeld ?_ ?_
   rotate_left
   ·
    rintro w' ⟨s0, s1, s2, s3, s4, s5, s6⟩
    go_simp
    with_reducible rfl
   rotate_left
   ·
    simp only [Act.put, List.setIfInBounds_toArray, List.set_cons_zero, List.set_cons_succ, i64_w, i32_w]
    rfl
   refine one_ (i := 3) (N := some 17) #[true, true, true, true, true, true, true, false, false, false] rfl rfl (one_of HT_.out (by kernel_rfl)) (by decide) (fun K hK => ?_)
   refine goes_ Try.func101 (by kernel_rfl) rfl #[.slice A0_0 l0_0.length c0_0, .agg #[.int .i64 a1_0, .int .i64 a1_1]] (by rfl) rfl rfl (by (try simp only [List.map_toArray, List.map_cons, List.map_nil]); first | done | rfl | (simp only [List.length_drop, List.length_take]; rfl)) ?_
   with_reducible refine (swashplateref01_corners.calls k _ _ l0_0 a1_0 a1_1 t409 _ ?side1 ?side2 A4.out).mono ?_
   (case side1 => exact cr_ (Kd.C_below HR0_0.out HB.out))
   (case side2 => exact HC0_0.out)
   rintro e w16 ⟨v410, rfl, ho0, hb⟩
   refine ⟨_, rfl, ?_⟩
   have n0_ := Aside0.mk (Kd.R_lower ho0 (below_size (bl_ HB.out)))
   have n1_ := Aside0.mk (blk_below (bk_ BK405.out) hb)
   have n2_ := Aside0.mk (blk_below (bk_ BK406.out) hb)
   have n3_ := Aside0.mk (blk_below (bk_ BK407.out) hb)
   have n4_ := Aside0.mk (blk_below (bk_ BK408.out) hb)
   have n5_ := Aside0.mk (below_step (bl_ HB.out) hb)
   clear BK405 BK406 BK407 BK408 HB
   have HO411 := n0_
   have BK405 := n1_
   have BK406 := n2_
   have BK407 := n3_
   have BK408 := n4_
   have HB := n5_
   clear n0_ n1_ n2_ n3_ n4_ n5_
   (try clear hb)
   (try clear hb2)
   (try clear hk)
   (try clear hi)
   (try clear ho0)
   refine hK.out _ _ ⟨(blk_cell BK405.out 0).trans rfl, (blk_cell BK405.out 1).trans rfl, (blk_cell BK405.out 2).trans rfl, (blk_cell BK406.out 0).trans rfl, (blk_cell BK406.out 1).trans rfl, (blk_cell BK407.out 0).trans rfl, (blk_cell BK407.out 1).trans rfl⟩ (fun hHeld => ?_)
   clear hK K
   refine norm_ (a' := ?_) ?_ ?_
   rotate_left
   ·
    show Act.put _ (some 17) _ = _
    simp only [Act.put, List.setIfInBounds_toArray, List.set_cons_zero, List.set_cons_succ, i64_w, i32_w]
    rfl
   refine one_ (i := 7) (N := some 21) #[true, true, true, true, true, true, true, true, false, false] rfl rfl (one_of HT_.out (by kernel_rfl)) (by decide) (fun K hK => ?_)
   refine goes_ Try.func101 (by kernel_rfl) rfl #[.slice A0_1 l0_1.length c0_1, .agg #[.int .i64 a2_0, .int .i64 a2_1]] (by rfl) rfl rfl (by (try simp only [List.map_toArray, List.map_cons, List.map_nil]); first | done | rfl | (simp only [List.length_drop, List.length_take]; rfl)) ?_
   with_reducible refine (swashplateref01_corners.calls k _ _ l0_1 a2_0 a2_1 t412 _ ?side1 ?side2 A5.out).mono ?_
   (case side1 => exact cr_ (Kd.C_below HR0_1.out HB.out))
   (case side2 => exact HC0_1.out)
   rintro e w17 ⟨v413, rfl, ho0, hb⟩
   refine ⟨_, rfl, ?_⟩
   have n0_ := Aside0.mk (Kd.R_elder' (by (with_reducible repeat (first | apply Kd.R_alloc | apply Kd.R_drewN | apply Kd.R_drew)); exact HO411.out) (Kd.R_base ho0) hb)
   have n1_ := Aside0.mk (Kd.R_lower (Kd.R_new' ho0 (Kd.R_lt (by (with_reducible repeat (first | apply Kd.R_alloc | apply Kd.R_drewN | apply Kd.R_drew)); exact HO411.out))) (below_size (bl_ HB.out)))
   have n2_ := Aside0.mk (blk_below (bk_ BK405.out) hb)
   have n3_ := Aside0.mk (blk_below (bk_ BK406.out) hb)
   have n4_ := Aside0.mk (blk_below (bk_ BK407.out) hb)
   have n5_ := Aside0.mk (blk_below (bk_ BK408.out) hb)
   have n6_ := Aside0.mk (below_step (bl_ HB.out) hb)
   clear HO411 BK405 BK406 BK407 BK408 HB
   have HO411 := n0_
   have HO414 := n1_
   have BK405 := n2_
   have BK406 := n3_
   have BK407 := n4_
   have BK408 := n5_
   have HB := n6_
   clear n0_ n1_ n2_ n3_ n4_ n5_ n6_
   (try clear hb)
   (try clear hb2)
   (try clear hk)
   (try clear hi)
   (try clear ho0)
   refine hK.out _ _ ⟨(blk_cell BK405.out 0).trans rfl, (blk_cell BK405.out 1).trans rfl, (blk_cell BK405.out 2).trans rfl, (blk_cell BK406.out 0).trans rfl, (blk_cell BK406.out 1).trans rfl, (blk_cell BK407.out 0).trans rfl, (blk_cell BK407.out 1).trans rfl⟩ (fun hHeld => ?_)
   clear hK K
   refine norm_ (a' := ?_) ?_ ?_
   rotate_left
   ·
    show Act.put _ (some 21) _ = _
    simp only [Act.put, List.setIfInBounds_toArray, List.set_cons_zero, List.set_cons_succ, i64_w, i32_w]
    rfl
   refine pure_ (i := 8) (N := some 7) (v := ?_) (a' := ?_) #[true, true, true, true, true, true, true, true, true, false] rfl rfl (any_of HT_.out (by kernel_rfl)) (fun _ _ _ h => h) (Or.inl ⟨by rfl, ?_⟩) ?_ ?_
   rotate_left
   ·
    intro w'
    go_simp
    with_reducible rfl
   rotate_left
   ·
    simp only [Act.put, List.setIfInBounds_toArray, List.set_cons_zero, List.set_cons_succ, i64_w, i32_w]
    rfl
   refine pure_ (i := 9) (N := some 8) (v := ?_) (a' := ?_) #[true, true, true, true, true, true, true, true, true, true] rfl rfl (any_of HT_.out (by kernel_rfl)) (fun _ _ _ h => h) (Or.inl ⟨by rfl, ?_⟩) ?_ ?_
   rotate_left
   ·
    intro w'
    go_simp
    with_reducible rfl
   rotate_left
   ·
    simp only [Act.put, List.setIfInBounds_toArray, List.set_cons_zero, List.set_cons_succ, i64_w, i32_w]
    rfl
   refine done_ (done_of HT_.out (by kernel_rfl)) ?_
   try go_wp2
   have n0_ := Aside0.mk (Kd.R_drew HO411.out)
   have n1_ := Aside0.mk (Kd.R_drew HO414.out)
   have n2_ := Aside0.mk (blk_drew BK405.out)
   have n3_ := Aside0.mk (blk_drew BK406.out)
   have n4_ := Aside0.mk (blk_drew BK407.out)
   have n5_ := Aside0.mk (blk_drew BK408.out)
   have n6_ := Aside0.mk (below_drew1 HB.out)
   clear HO411 HO414 BK405 BK406 BK407 BK408 HB
   have HO411 := n0_
   have HO414 := n1_
   have BK405 := n2_
   have BK406 := n3_
   have BK407 := n4_
   have BK408 := n5_
   have HB := n6_
   clear n0_ n1_ n2_ n3_ n4_ n5_ n6_
   obtain ⟨Ao19, co19, eo19⟩ := Kd.R_slice HO411.out
   (first | subst eo19 | (injection eo19 with f1_ f2_ f3_; have f4_ := f1_.symm; have f5_ := f3_.symm; clear f1_ f2_ f3_; subst f4_; subst f5_))
   have p415 : 0 ≤ (0 : Int) := (by omega)
   have q415 : 0 < (t409.length : Int) := of_decide_eq_true (by first | (with_reducible assumption) | assumption)
   obtain ⟨ad415, e415, hx415_0⟩ := Kd.at_int (Kd.R_reads' HO411.out).2.2 0 p415 q415
   cases e415
   have qi415 : (0 < t409.length) = True := eq_true (by omega)
   (try rw [show ((0 : Int)).toNat = 0 from rfl] at hx415_0)
   (try rw [Addr.add_zero'] at hx415_0)
   replace p415 := eq_true p415
   replace q415 := eq_true q415
   obtain ⟨Ao20, co20, eo20⟩ := Kd.R_slice HO414.out
   (first | subst eo20 | (injection eo20 with f1_ f2_ f3_; have f4_ := f1_.symm; have f5_ := f3_.symm; clear f1_ f2_ f3_; subst f4_; subst f5_))
   have p416 : 0 ≤ (0 : Int) := (by omega)
   have q416 : 0 < (t412.length : Int) := of_decide_eq_true (by first | (with_reducible assumption) | assumption)
   obtain ⟨ad416, e416, hx416_0⟩ := Kd.at_int (Kd.R_reads' HO414.out).2.2 0 p416 q416
   cases e416
   have qi416 : (0 < t412.length) = True := eq_true (by omega)
   (try rw [show ((0 : Int)).toNat = 0 from rfl] at hx416_0)
   (try rw [Addr.add_zero'] at hx416_0)
   replace p416 := eq_true p416
   replace q416 := eq_true q416
   refine start_ (n := 13) (S := fun w' => w'.cell? ⟨gb405, 0, none⟩ = some (.slice A0_0 l0_0.length c0_0) ∧ w'.cell? ⟨gb405, 1, none⟩ = some (.slice A0_1 l0_1.length c0_1) ∧ w'.cell? ⟨gb405, 2, none⟩ = some (.slice A0_2 l0_2.length c0_2) ∧ w'.cell? ad415 = some (.int .i64 (rd t409 0)) ∧ w'.cell? ad416 = some (.int .i64 (rd t412 0))) (ds := []) #[false, false, false, false, false, false, false, false, false, false, false, false, false] (by kernel_rfl) rfl rfl ⟨(blk_cell BK405.out 0).trans rfl, (blk_cell BK405.out 1).trans rfl, (blk_cell BK405.out 2).trans rfl, hx415_0, hx416_0⟩ (fun hHeld => ?_); refine with_tabW swashplateref01_boundP.tab2 swashplateref01_boundP.bits2 (fun HT_ HW_ => ?_)
   generalize w17.drew = w18 at HO411 HO414 BK405 BK406 BK407 BK408 HB hx415_0 hx416_0 hHeld ⊢
   refine pure_ (i := 1) (N := some 24) (v := ?_) (a' := ?_) #[false, true, false, false, false, false, false, false, false, false, false, false, false] rfl rfl (any_of HT_.out (by kernel_rfl)) (fun _ _ _ h => h) (Or.inl ⟨by rfl, ?_⟩) ?_ ?_
   rotate_left
   ·
    intro w'
    go_simp
    with_reducible rfl
   rotate_left
   ·
    simp only [Act.put, List.setIfInBounds_toArray, List.set_cons_zero, List.set_cons_succ, i64_w, i32_w]
    rfl
   refine pure_ (i := 2) (N := some 25) (v := ?_) (a' := ?_) #[false, true, true, false, false, false, false, false, false, false, false, false, false] rfl rfl (any_of HT_.out (by kernel_rfl)) (fun _ _ _ h => h) (Or.inl ⟨by rfl, ?_⟩) ?_ ?_
   rotate_left
   ·
    intro w'
    go_simp
    with_reducible rfl
   rotate_left
   ·
    simp only [Act.put, List.setIfInBounds_toArray, List.set_cons_zero, List.set_cons_succ, i64_w, i32_w]
    rfl
   refine pure_ (i := 4) (N := some 27) (v := ?_) (a' := ?_) #[false, true, true, false, true, false, false, false, false, false, false, false, false] rfl rfl (any_of HT_.out (by kernel_rfl)) (fun _ _ _ h => h) (Or.inl ⟨by rfl, ?_⟩) ?_ ?_
   rotate_left
   ·
    intro w'
    go_simp
    with_reducible rfl
   rotate_left
   ·
    simp only [Act.put, List.setIfInBounds_toArray, List.set_cons_zero, List.set_cons_succ, i64_w, i32_w]
    rfl
   refine pure_ (i := 5) (N := some 28) (v := ?_) (a' := ?_) #[false, true, true, false, true, true, false, false, false, false, false, false, false] rfl rfl (any_of HT_.out (by kernel_rfl)) (fun _ _ _ h => h) (Or.inl ⟨by rfl, ?_⟩) ?_ ?_
   rotate_left
   ·
    intro w'
    go_simp
    with_reducible rfl
   rotate_left
   ·
    simp only [Act.put, List.setIfInBounds_toArray, List.set_cons_zero, List.set_cons_succ, i64_w, i32_w]
    rfl
   refine take_ (i := 0) (N := some 23) (v := ?_) (a' := ?_) #[true, true, true, false, true, true, false, false, false, false, false, false, false] rfl rfl (take_ofW HT_.out HW_.out (by kernel_rfl)) (fun _ _ _ h => h) (Or.inl ⟨by rfl, ?_⟩) hHeld ?_ ?_
   rotate_left
   ·
    rintro w' ⟨s0, s1, s2, s3, s4⟩
    go_simp
    with_reducible rfl
   rotate_left
   ·
    simp only [Act.put, List.setIfInBounds_toArray, List.set_cons_zero, List.set_cons_succ, i64_w, i32_w]
    rfl
   refine take_ (i := 3) (N := some 26) (v := ?_) (a' := ?_) #[true, true, true, true, true, true, false, false, false, false, false, false, false] rfl rfl (take_ofW HT_.out HW_.out (by kernel_rfl)) (fun _ _ _ h => h) (Or.inl ⟨by rfl, ?_⟩) hHeld ?_ ?_
   rotate_left
   ·
    rintro w' ⟨s0, s1, s2, s3, s4⟩
    go_simp
    with_reducible rfl
   rotate_left
   ·
    simp only [Act.put, List.setIfInBounds_toArray, List.set_cons_zero, List.set_cons_succ, i64_w, i32_w]
    rfl
   refine take_ (i := 6) (N := some 29) (v := ?_) (a' := ?_) #[true, true, true, true, true, true, true, false, false, false, false, false, false] rfl rfl (take_ofW HT_.out HW_.out (by kernel_rfl)) (fun _ _ _ h => h) (Or.inl ⟨by rfl, ?_⟩) hHeld ?_ ?_
   rotate_left
   ·
    rintro w' ⟨s0, s1, s2, s3, s4⟩
    go_simp
    with_reducible rfl
   rotate_left
   ·
    simp only [Act.put, List.setIfInBounds_toArray, List.set_cons_zero, List.set_cons_succ, i64_w, i32_w]
    rfl
   refine one_ (i := 7) (N := some 30) #[true, true, true, true, true, true, true, true, false, false, false, false, false] rfl rfl (one_of HT_.out (by kernel_rfl)) (by decide) (fun K hK => ?_)
   refine goes_ Try.func102 (by kernel_rfl) rfl #[.agg #[.slice A0_0 l0_0.length c0_0, .slice A0_1 l0_1.length c0_1, .slice A0_2 l0_2.length c0_2], .int .i64 (rd t409 0), .int .i64 (rd t412 0)] (by rfl) rfl rfl (by (try simp only [List.map_toArray, List.map_cons, List.map_nil]); first | done | rfl | (simp only [List.length_drop, List.length_take]; rfl)) ?_
   with_reducible refine (swashplateref01_Value.calls _ _ l0_0 _ _ l0_1 _ _ l0_2 (rd t409 0) (rd t412 0) t417 t418 _ ?side1 ?side2 ?side3 ?side4 ?side5 ?side6 A8.out).mono ?_
   (case side1 => exact cr_ (Kd.C_below HR0_0.out HB.out))
   (case side2 => exact HC0_0.out)
   (case side3 => exact cr_ (Kd.C_below HR0_1.out HB.out))
   (case side4 => exact HC0_1.out)
   (case side5 => exact cr_ (Kd.C_below HR0_2.out HB.out))
   (case side6 => exact HC0_2.out)
   rintro e w21 ⟨rfl, hb⟩
   have HS3_ := (hb.cell (World.block_lt_of_cell? _ _ (hHeld.2.2.2.1))).trans (hHeld.2.2.2.1)
   have HS4_ := (hb.cell (World.block_lt_of_cell? _ _ (hHeld.2.2.2.2))).trans (hHeld.2.2.2.2)
   refine ⟨_, rfl, ?_⟩
   have n0_ := Aside0.mk (Kd.R_below (by (with_reducible repeat (first | apply Kd.R_alloc | apply Kd.R_drewN | apply Kd.R_drew)); exact HO411.out) hb)
   have n1_ := Aside0.mk (Kd.R_below (by (with_reducible repeat (first | apply Kd.R_alloc | apply Kd.R_drewN | apply Kd.R_drew)); exact HO414.out) hb)
   have n2_ := Aside0.mk (blk_below (bk_ BK405.out) hb)
   have n3_ := Aside0.mk (blk_below (bk_ BK406.out) hb)
   have n4_ := Aside0.mk (blk_below (bk_ BK407.out) hb)
   have n5_ := Aside0.mk (blk_below (bk_ BK408.out) hb)
   have n6_ := Aside0.mk (below_step (bl_ HB.out) hb)
   clear HO411 HO414 BK405 BK406 BK407 BK408 HB
   have HO411 := n0_
   have HO414 := n1_
   have BK405 := n2_
   have BK406 := n3_
   have BK407 := n4_
   have BK408 := n5_
   have HB := n6_
   clear n0_ n1_ n2_ n3_ n4_ n5_ n6_
   (try clear hb)
   (try clear hb2)
   (try clear hk)
   (try clear hi)
   refine hK.out _ _ ⟨(blk_cell BK405.out 0).trans rfl, (blk_cell BK405.out 1).trans rfl, (blk_cell BK405.out 2).trans rfl, HS3_, HS4_⟩ (fun hHeld => ?_)
   clear hK K
   refine norm_ (a' := ?_) ?_ ?_
   rotate_left
   ·
    show Act.put _ (some 30) _ = _
    simp only [Act.put, List.setIfInBounds_toArray, List.set_cons_zero, List.set_cons_succ, i64_w, i32_w]
    rfl
   refine pure_ (i := 8) (N := some 22) (v := ?_) (a' := ?_) #[true, true, true, true, true, true, true, true, true, false, false, false, false] rfl rfl (any_of HT_.out (by kernel_rfl)) (fun _ _ _ h => h) (Or.inl ⟨by rfl, ?_⟩) ?_ ?_
   rotate_left
   ·
    intro w'
    go_simp
    with_reducible rfl
   rotate_left
   ·
    simp only [Act.put, List.setIfInBounds_toArray, List.set_cons_zero, List.set_cons_succ, i64_w, i32_w]
    rfl
   refine pure_ (i := 9) (N := some 31) (v := ?_) (a' := ?_) #[true, true, true, true, true, true, true, true, true, true, false, false, false] rfl rfl (any_of HT_.out (by kernel_rfl)) (fun _ _ _ h => h) (Or.inl ⟨by rfl, ?_⟩) ?_ ?_
   rotate_left
   ·
    intro w'
    go_simp
    with_reducible rfl
   rotate_left
   ·
    simp only [Act.put, List.setIfInBounds_toArray, List.set_cons_zero, List.set_cons_succ, i64_w, i32_w]
    rfl
   refine pure_ (i := 10) (N := some 32) (v := ?_) (a' := ?_) #[true, true, true, true, true, true, true, true, true, true, true, false, false] rfl rfl (any_of HT_.out (by kernel_rfl)) (fun _ _ _ h => h) (Or.inl ⟨by rfl, ?_⟩) ?_ ?_
   rotate_left
   ·
    intro w'
    go_simp
    with_reducible rfl
   rotate_left
   ·
    simp only [Act.put, List.setIfInBounds_toArray, List.set_cons_zero, List.set_cons_succ, i64_w, i32_w]
    rfl
   refine pure_ (i := 11) (N := some 9) (v := ?_) (a' := ?_) #[true, true, true, true, true, true, true, true, true, true, true, true, false] rfl rfl (any_of HT_.out (by kernel_rfl)) (fun _ _ _ h => h) (Or.inl ⟨by rfl, ?_⟩) ?_ ?_
   rotate_left
   ·
    intro w'
    go_simp
    with_reducible rfl
   rotate_left
   ·
    simp only [Act.put, List.setIfInBounds_toArray, List.set_cons_zero, List.set_cons_succ, i64_w, i32_w]
    rfl
   refine pure_ (i := 12) (N := some 10) (v := ?_) (a' := ?_) #[true, true, true, true, true, true, true, true, true, true, true, true, true] rfl rfl (any_of HT_.out (by kernel_rfl)) (fun _ _ _ h => h) (Or.inl ⟨by rfl, ?_⟩) ?_ ?_
   rotate_left
   ·
    intro w'
    go_simp
    with_reducible rfl
   rotate_left
   ·
    simp only [Act.put, List.setIfInBounds_toArray, List.set_cons_zero, List.set_cons_succ, i64_w, i32_w]
    rfl
   refine done_ (done_of HT_.out (by kernel_rfl)) ?_
   try go_wp2_with (first | ((with_reducible refine gate_callee (f := 107) rfl ?_); refine goesL_ (some 35) rfl rfl Try.func107 (by kernel_rfl) rfl #[.int .i64 t417, .int .i64 t418] rfl (by (try simp only [List.map_toArray, List.map_cons, List.map_nil]); first | done | rfl | (simp only [List.length_drop, List.length_take]; rfl)) ?_; (with_reducible refine (swashplateref01_floor.calls t417 t418 t419 _ A9.out).mono ?_); rintro e w' ⟨rfl, ⟨nd, rfl⟩⟩; refine ⟨_, rfl, ?_⟩; (try (rw [drewN_self w21]; generalize hq_ : World.drewN w21 _ = w21; have n0_ : Aside0 (Kd.R (Kd.int .i64) 3 w21 w.heap.size (fun k_ => some k_ ≠ (.slice (some ad416) t412.length co20 : Value).ownBlock) (.slice (some ad415) t409.length co19) t409) := ⟨by rw [← hq_]; exact (by (with_reducible repeat (first | apply Kd.R_alloc | apply Kd.R_drewN | apply Kd.R_drew)); exact Kd.R_mono HO411.out (fun _ hk => hk.2))⟩; have n1_ : Aside0 (Kd.R (Kd.int .i64) 3 w21 w.heap.size (fun k_ => some k_ ≠ (.slice (some ad415) t409.length co19 : Value).ownBlock) (.slice (some ad416) t412.length co20) t412) := ⟨by rw [← hq_]; exact (by (with_reducible repeat (first | apply Kd.R_alloc | apply Kd.R_drewN | apply Kd.R_drew)); exact Kd.R_mono HO414.out (fun _ hk => hk.2))⟩; have n2_ : Aside0 (w21.heap[gb405]? = some (.cells #[.slice A0_0 l0_0.length c0_0, .slice A0_1 l0_1.length c0_1, .slice A0_2 l0_2.length c0_2] 25 (0, 0))) := ⟨by rw [← hq_]; exact (bk_ BK405.out)⟩; have n3_ : Aside0 (w21.heap[gb406]? = some (.cells #[.int .i64 a1_0, .int .i64 a1_1] 27 (0, 0))) := ⟨by rw [← hq_]; exact (bk_ BK406.out)⟩; have n4_ : Aside0 (w21.heap[gb407]? = some (.cells #[.int .i64 a2_0, .int .i64 a2_1] 27 (0, 0))) := ⟨by rw [← hq_]; exact (bk_ BK407.out)⟩; have n5_ : Aside0 (w21.heap[gb408]? = some (.cells #[.int .i64 0, .int .i64 0] 27 (0, 0))) := ⟨by rw [← hq_]; exact (bk_ BK408.out)⟩; have n6_ : Aside0 (Below w.heap.size w w21) := ⟨by rw [← hq_]; exact (bl_ HB.out)⟩; clear HO411 HO414 BK405 BK406 BK407 BK408 HB hq_; have HO411 := n0_; have HO414 := n1_; have BK405 := n2_; have BK406 := n3_; have BK407 := n4_; have BK408 := n5_; have HB := n6_; clear n0_ n1_ n2_ n3_ n4_ n5_ n6_))) | ((with_reducible refine gate_callee (f := 108) rfl ?_); refine goesL_ (some 38) rfl rfl Try.func108 (by kernel_rfl) rfl #[.int .i64 t417, .int .i64 t418] rfl (by (try simp only [List.map_toArray, List.map_cons, List.map_nil]); first | done | rfl | (simp only [List.length_drop, List.length_take]; rfl)) ?_; (with_reducible refine (swashplateref01_ceil.calls t417 t418 t420 _ A10.out).mono ?_); rintro e w' ⟨rfl, ⟨nd, rfl⟩⟩; refine ⟨_, rfl, ?_⟩; (try (rw [drewN_self w21]; generalize hq_ : World.drewN w21 _ = w21; have n0_ : Aside0 (Kd.R (Kd.int .i64) 3 w21 w.heap.size (fun k_ => some k_ ≠ (.slice (some ad416) t412.length co20 : Value).ownBlock) (.slice (some ad415) t409.length co19) t409) := ⟨by rw [← hq_]; exact (by (with_reducible repeat (first | apply Kd.R_alloc | apply Kd.R_drewN | apply Kd.R_drew)); exact Kd.R_mono HO411.out (fun _ hk => hk.2))⟩; have n1_ : Aside0 (Kd.R (Kd.int .i64) 3 w21 w.heap.size (fun k_ => some k_ ≠ (.slice (some ad415) t409.length co19 : Value).ownBlock) (.slice (some ad416) t412.length co20) t412) := ⟨by rw [← hq_]; exact (by (with_reducible repeat (first | apply Kd.R_alloc | apply Kd.R_drewN | apply Kd.R_drew)); exact Kd.R_mono HO414.out (fun _ hk => hk.2))⟩; have n2_ : Aside0 (w21.heap[gb405]? = some (.cells #[.slice A0_0 l0_0.length c0_0, .slice A0_1 l0_1.length c0_1, .slice A0_2 l0_2.length c0_2] 25 (0, 0))) := ⟨by rw [← hq_]; exact (bk_ BK405.out)⟩; have n3_ : Aside0 (w21.heap[gb406]? = some (.cells #[.int .i64 a1_0, .int .i64 a1_1] 27 (0, 0))) := ⟨by rw [← hq_]; exact (bk_ BK406.out)⟩; have n4_ : Aside0 (w21.heap[gb407]? = some (.cells #[.int .i64 a2_0, .int .i64 a2_1] 27 (0, 0))) := ⟨by rw [← hq_]; exact (bk_ BK407.out)⟩; have n5_ : Aside0 (w21.heap[gb408]? = some (.cells #[.int .i64 0, .int .i64 0] 27 (0, 0))) := ⟨by rw [← hq_]; exact (bk_ BK408.out)⟩; have n6_ : Aside0 (Below w.heap.size w w21) := ⟨by rw [← hq_]; exact (bl_ HB.out)⟩; clear HO411 HO414 BK405 BK406 BK407 BK408 HB hq_; have HO411 := n0_; have HO414 := n1_; have BK405 := n2_; have BK406 := n3_; have BK407 := n4_; have BK408 := n5_; have HB := n6_; clear n0_ n1_ n2_ n3_ n4_ n5_ n6_))) | ((with_reducible refine gate_dst (N := 11) rfl ?_); refine box_event ?hg (N := 11) ?hd (cs := #[.int .i64 0, .int .i64 0]) (t := 27) ?hr ?_; (case hd => rfl); (case hg => rfl); (case hr => first | (go_simp; done) | (go_simp; rfl)); intro gb421 hg w22 hbox hb; have n0_ := Aside0.mk (Kd.R_below (by (with_reducible repeat (first | apply Kd.R_alloc | apply Kd.R_drewN | apply Kd.R_drew)); exact HO411.out) hb); have n1_ := Aside0.mk (Kd.R_below (by (with_reducible repeat (first | apply Kd.R_alloc | apply Kd.R_drewN | apply Kd.R_drew)); exact HO414.out) hb); have n2_ := Aside0.mk (blk_below (bk_ BK405.out) hb); have n3_ := Aside0.mk (blk_below (bk_ BK406.out) hb); have n4_ := Aside0.mk (blk_below (bk_ BK407.out) hb); have n5_ := Aside0.mk (blk_below (bk_ BK408.out) hb); have n6_ := Aside0.mk (below_step (bl_ HB.out) hb); have n7_ := Aside0.mk (hbox); have n8_ := Aside0.mk (szl_ hg HB.out); have n9_ := Aside0.mk (szl_ hg HB.out); have n10_ := Aside0.mk (nel_ hg BK405.out); have n11_ := Aside0.mk (ner_ hg BK405.out); have n12_ := Aside0.mk (nel_ hg BK406.out); have n13_ := Aside0.mk (ner_ hg BK406.out); have n14_ := Aside0.mk (nel_ hg BK407.out); have n15_ := Aside0.mk (ner_ hg BK407.out); have n16_ := Aside0.mk (nel_ hg BK408.out); have n17_ := Aside0.mk (ner_ hg BK408.out); clear HO411 HO414 BK405 BK406 BK407 BK408 HB; have HO411 := n0_; have HO414 := n1_; have BK405 := n2_; have BK406 := n3_; have BK407 := n4_; have BK408 := n5_; have HB := n6_; have BK421 := n7_; have GW421 := n8_; have GE421 := n9_; have NB405_421 := n10_; have NB421_405 := n11_; have NB406_421 := n12_; have NB421_406 := n13_; have NB407_421 := n14_; have NB421_407 := n15_; have NB408_421 := n16_; have NB421_408 := n17_; clear n0_ n1_ n2_ n3_ n4_ n5_ n6_ n7_ n8_ n9_ n10_ n11_ n12_ n13_ n14_ n15_ n16_ n17_ hb hbox hg; have hnb23 := NB421_405.out; have hnc23 := NB405_421.out; have hnb24 := NB421_406.out; have hnc24 := NB406_421.out; have hnb25 := NB421_407.out; have hnc25 := NB407_421.out; have hnb26 := NB421_408.out; have hnc26 := NB408_421.out; have hcz27_0 : w22.cell? ⟨gb421, 0, none⟩ = some (.int .i64 0) := (blk_cell BK421.out 0).trans rfl; have hcz27_1 : w22.cell? ⟨gb421, 1, none⟩ = some (.int .i64 0) := (blk_cell BK421.out 1).trans rfl; have hfz27_0 := blk_frozen BK421.out 0; have hfz27_1 := blk_frozen BK421.out 1))
   go_loopg [12] k (fun kq v12 w' => ∃ (x12_1 : Int) (x422000_1 : Int) (x422001_1 : Int), v12 = .int .i64 x12_1 ∧ Aside0 (swashplateref01_boundP.l0 kq t409 t412 x12_1 l0_0 l0_1 l0_2 x422000_1 x422001_1 = some (r1, r2)) ∧ Aside0 (kq ≤ k) ∧ Aside0 (Kd.R (Kd.int .i64) 3 w' w.heap.size (fun k_ => some k_ ≠ ((.slice (some ad416) t412.length co20) : Value).ownBlock) (.slice (some ad415) t409.length co19) t409) ∧ Aside0 (Kd.R (Kd.int .i64) 3 w' w.heap.size (fun k_ => some k_ ≠ ((.slice (some ad415) t409.length co19) : Value).ownBlock) (.slice (some ad416) t412.length co20) t412) ∧ Aside0 (w'.heap[gb405]? = some (.cells #[(.slice A0_0 l0_0.length c0_0), (.slice A0_1 l0_1.length c0_1), (.slice A0_2 l0_2.length c0_2)] 25 (0, 0))) ∧ Aside0 (w'.heap[gb406]? = some (.cells #[.int .i64 a1_0, .int .i64 a1_1] 27 (0, 0))) ∧ Aside0 (w'.heap[gb407]? = some (.cells #[.int .i64 a2_0, .int .i64 a2_1] 27 (0, 0))) ∧ Aside0 (w'.heap[gb408]? = some (.cells #[.int .i64 0, .int .i64 0] 27 (0, 0))) ∧ Aside0 (w'.heap[gb421]? = some (.cells #[.int .i64 x422000_1, .int .i64 x422001_1] 27 (0, 0))) ∧ Aside0 (Below w.heap.size w w'))
   case atStart => exact ⟨(0), (t419), (t420), (by first | rfl | (simp; done) | (simp [*]; done)), H', ⟨Nat.le_refl _⟩, ⟨by (with_reducible repeat (first | apply Kd.R_alloc | apply Kd.R_drewN | apply Kd.R_drew)); exact Kd.R_mono (Kd.R_far (p := ⟨gb421, 1, none⟩) (Kd.R_far (p := ⟨gb421, 0, none⟩) (Kd.R_types HO411.out BK421.out (by decide)) (fun _ hk => hk.2) (.int .i64 t419)) (fun _ hk => hk.2) (.int .i64 t420)) (fun _ hk => by first | exact hk.1.2 | exact hk.1)⟩, ⟨by (with_reducible repeat (first | apply Kd.R_alloc | apply Kd.R_drewN | apply Kd.R_drew)); exact Kd.R_mono (Kd.R_far (p := ⟨gb421, 1, none⟩) (Kd.R_far (p := ⟨gb421, 0, none⟩) (Kd.R_types HO414.out BK421.out (by decide)) (fun _ hk => hk.2) (.int .i64 t419)) (fun _ hk => hk.2) (.int .i64 t420)) (fun _ hk => by first | exact hk.1.2 | exact hk.1)⟩, ⟨by (with_reducible repeat (first | refine blk_drewN ?_ _ | refine blk_drew ?_ | refine blk_alloc ?_ _)); refine blk_far ?_ NB405_421.out _; (with_reducible repeat (first | refine blk_drewN ?_ _ | refine blk_drew ?_ | refine blk_alloc ?_ _)); refine blk_far ?_ NB405_421.out _; (with_reducible repeat (first | refine blk_drewN ?_ _ | refine blk_drew ?_ | refine blk_alloc ?_ _)); exact BK405.out⟩, ⟨by (with_reducible repeat (first | refine blk_drewN ?_ _ | refine blk_drew ?_ | refine blk_alloc ?_ _)); refine blk_far ?_ NB406_421.out _; (with_reducible repeat (first | refine blk_drewN ?_ _ | refine blk_drew ?_ | refine blk_alloc ?_ _)); refine blk_far ?_ NB406_421.out _; (with_reducible repeat (first | refine blk_drewN ?_ _ | refine blk_drew ?_ | refine blk_alloc ?_ _)); exact BK406.out⟩, ⟨by (with_reducible repeat (first | refine blk_drewN ?_ _ | refine blk_drew ?_ | refine blk_alloc ?_ _)); refine blk_far ?_ NB407_421.out _; (with_reducible repeat (first | refine blk_drewN ?_ _ | refine blk_drew ?_ | refine blk_alloc ?_ _)); refine blk_far ?_ NB407_421.out _; (with_reducible repeat (first | refine blk_drewN ?_ _ | refine blk_drew ?_ | refine blk_alloc ?_ _)); exact BK407.out⟩, ⟨by (with_reducible repeat (first | refine blk_drewN ?_ _ | refine blk_drew ?_ | refine blk_alloc ?_ _)); refine blk_far ?_ NB408_421.out _; (with_reducible repeat (first | refine blk_drewN ?_ _ | refine blk_drew ?_ | refine blk_alloc ?_ _)); refine blk_far ?_ NB408_421.out _; (with_reducible repeat (first | refine blk_drewN ?_ _ | refine blk_drew ?_ | refine blk_alloc ?_ _)); exact BK408.out⟩, ⟨by (with_reducible repeat (first | refine blk_drewN ?_ _ | refine blk_drew ?_ | refine blk_alloc ?_ _)); refine blk_put (cs := #[.int .i64 t419, .int .i64 0]) ?_ 1 _ rfl; (with_reducible repeat (first | refine blk_drewN ?_ _ | refine blk_drew ?_ | refine blk_alloc ?_ _)); refine blk_put (cs := #[.int .i64 0, .int .i64 0]) ?_ 0 _ rfl; (with_reducible repeat (first | refine blk_drewN ?_ _ | refine blk_drew ?_ | refine blk_alloc ?_ _)); exact BK421.out⟩, ⟨bl_ HB.out⟩⟩
   case round =>
    clear H'
    try clear c1
    try clear c2
    try clear p2
    try clear p4
    try clear q4
    try clear hx4
    try clear qi4
    try clear c6
    try clear c6b0
    try clear c6b1
    try clear c7
    try clear c7b0
    try clear c7b1
    try clear c9
    try clear c10
    try clear c23
    try clear c24
    try clear c25
    try clear c26
    try clear hcz27_0
    try clear hcz27_1
    try clear hfz27_0
    try clear hfz27_1
    try clear hx415_0
    try clear hx416_0
    try clear p415
    try clear p416
    try clear q415
    try clear q416
    obtain ⟨x12_1, x422000_1, x422001_1, rfl, HA, HK1, HO_7, HO_8, BK405, BK406, BK407, BK408, BK421, HB⟩ := hrel
    cases gk with
    | zero => exact absurd HA.out (by simp [swashplateref01_boundP.l0])
    | succ k1 =>
     have H := HA.out
     clear HA
     simp only [swashplateref01_boundP.l0] at H
     by_cases c28 : x12_1 < (t409.length : Int)
     ·
      rw [if_pos c28] at H
      have c28b0 : decide (x12_1 < (t409.length : Int)) = true := decide_eq_true c28
      clear c28
      have H' := Aside0.mk H
      clear H
      go_wp2
      go_loopg [13] k1 (fun kq v13 w' => ∃ (x13_2 : Int) (x422000_2 : Int) (x422001_2 : Int), v13 = .int .i64 x13_2 ∧ Aside0 (swashplateref01_boundP.l1 kq t409 t412 x12_1 x13_2 l0_0 l0_1 l0_2 x422000_2 x422001_2 = some (r1, r2)) ∧ Aside0 (kq ≤ k1) ∧ Aside0 (Kd.R (Kd.int .i64) 3 w' w.heap.size (fun k_ => some k_ ≠ ((.slice (some ad416) t412.length co20) : Value).ownBlock) (.slice (some ad415) t409.length co19) t409) ∧ Aside0 (Kd.R (Kd.int .i64) 3 w' w.heap.size (fun k_ => some k_ ≠ ((.slice (some ad415) t409.length co19) : Value).ownBlock) (.slice (some ad416) t412.length co20) t412) ∧ Aside0 (w'.heap[gb405]? = some (.cells #[(.slice A0_0 l0_0.length c0_0), (.slice A0_1 l0_1.length c0_1), (.slice A0_2 l0_2.length c0_2)] 25 (0, 0))) ∧ Aside0 (w'.heap[gb406]? = some (.cells #[.int .i64 a1_0, .int .i64 a1_1] 27 (0, 0))) ∧ Aside0 (w'.heap[gb407]? = some (.cells #[.int .i64 a2_0, .int .i64 a2_1] 27 (0, 0))) ∧ Aside0 (w'.heap[gb408]? = some (.cells #[.int .i64 0, .int .i64 0] 27 (0, 0))) ∧ Aside0 (w'.heap[gb421]? = some (.cells #[.int .i64 x422000_2, .int .i64 x422001_2] 27 (0, 0))) ∧ Aside0 (Below w.heap.size w w'))
      case atStart => exact ⟨(0), (x422000_1), (x422001_1), (by first | rfl | (simp; done) | (simp [*]; done)), H', ⟨Nat.le_refl _⟩, ⟨by (with_reducible repeat (first | apply Kd.R_alloc | apply Kd.R_drewN | apply Kd.R_drew)); exact HO_7.out⟩, ⟨by (with_reducible repeat (first | apply Kd.R_alloc | apply Kd.R_drewN | apply Kd.R_drew)); exact HO_8.out⟩, ⟨bk_ BK405.out⟩, ⟨bk_ BK406.out⟩, ⟨bk_ BK407.out⟩, ⟨bk_ BK408.out⟩, ⟨bk_ BK421.out⟩, ⟨bl_ HB.out⟩⟩
      case round =>
       clear H'
       try clear c1
       try clear c2
       try clear p2
       try clear p4
       try clear q4
       try clear hx4
       try clear qi4
       try clear c6
       try clear c6b0
       try clear c6b1
       try clear c7
       try clear c7b0
       try clear c7b1
       try clear c9
       try clear c10
       try clear c23
       try clear c24
       try clear c25
       try clear c26
       try clear c28
       try clear c28b0
       try clear hcz27_0
       try clear hcz27_1
       try clear hfz27_0
       try clear hfz27_1
       try clear hx415_0
       try clear hx416_0
       try clear p2
       try clear p4
       try clear p415
       try clear p416
       try clear q4
       try clear q415
       try clear q416
       obtain ⟨x13_2, x422000_2, x422001_2, rfl, HA, HK2, HO_7, HO_8, BK405, BK406, BK407, BK408, BK421, HB⟩ := hrel
       cases gk with
       | zero => exact absurd HA.out (by simp [swashplateref01_boundP.l1])
       | succ k2 =>
        have H := HA.out
        clear HA
        simp only [swashplateref01_boundP.l1] at H
        by_cases c29 : x13_2 < (t412.length : Int)
        ·
         rw [if_pos c29] at H
         have c29b0 : decide (x13_2 < (t412.length : Int)) = true := decide_eq_true c29
         clear c29
         by_cases c30 : 0 ≤ x12_1
         ·
          rw [if_pos c30] at H
          have c30b0 : decide (0 ≤ x12_1) = true := decide_eq_true c30
          clear c30
          by_cases c31 : x12_1 < (t409.length : Int)
          ·
           rw [if_pos c31] at H
           have c31b0 : decide (x12_1 < (t409.length : Int)) = true := decide_eq_true c31
           clear c31
           by_cases c32 : 0 ≤ x13_2
           ·
            rw [if_pos c32] at H
            have c32b0 : decide (0 ≤ x13_2) = true := decide_eq_true c32
            clear c32
            replace H := Option.bind_eq_some_iff.mp H
            obtain ⟨⟨t424, t425⟩, A330, H⟩ := H
            replace H : ((swashplateref01_floor.f t424 t425).bind fun t426 => ((swashplateref01_ceil.f t424 t425).bind fun t427 => (swashplateref01_boundP.l1 k2 t409 t412 x12_1 (wrap64 (x13_2 + 1)) l0_0 l0_1 l0_2 (mn x422000_2 t426) (mx x422001_2 t427)))) = some (r1, r2) := H
            have A33 := Aside0.mk A330
            clear A330
            replace H := Option.bind_eq_some_iff.mp H
            obtain ⟨t426, A340, H⟩ := H
            replace H : ((swashplateref01_ceil.f t424 t425).bind fun t427 => (swashplateref01_boundP.l1 k2 t409 t412 x12_1 (wrap64 (x13_2 + 1)) l0_0 l0_1 l0_2 (mn x422000_2 t426) (mx x422001_2 t427))) = some (r1, r2) := H
            have A34 := Aside0.mk A340
            clear A340
            obtain ⟨ji35, hji35⟩ : ∃ j_ : Int, (mn x422000_2 t426) = j_ := ⟨_, rfl⟩
            replace H : ((swashplateref01_ceil.f t424 t425).bind fun t427 => (swashplateref01_boundP.l1 k2 t409 t412 x12_1 (wrap64 (x13_2 + 1)) l0_0 l0_1 l0_2 ji35 (mx x422001_2 t427))) = some (r1, r2) := by first | (rw [hji35] at H; exact H) | (simp only [hji35] at H ⊢; exact H)
            (try rw [hji35] at A33)
            (try rw [hji35] at A34)
            have hji35_ : (if t426 < x422000_2 then t426 else x422000_2) = ji35 := hji35
            replace H := Option.bind_eq_some_iff.mp H
            obtain ⟨t427, A360, H⟩ := H
            replace H : (swashplateref01_boundP.l1 k2 t409 t412 x12_1 (wrap64 (x13_2 + 1)) l0_0 l0_1 l0_2 ji35 (mx x422001_2 t427)) = some (r1, r2) := H
            have A36 := Aside0.mk A360
            clear A360
            obtain ⟨ji37, hji37⟩ : ∃ j_ : Int, (mx x422001_2 t427) = j_ := ⟨_, rfl⟩
            replace H : (swashplateref01_boundP.l1 k2 t409 t412 x12_1 (wrap64 (x13_2 + 1)) l0_0 l0_1 l0_2 ji35 ji37) = some (r1, r2) := by first | (rw [hji37] at H; exact H) | (simp only [hji37] at H ⊢; exact H)
            (try rw [hji37] at A33)
            (try rw [hji37] at A34)
            (try rw [hji37] at A36)
            have hji37_ : (if x422001_2 < t427 then t427 else x422001_2) = ji37 := hji37
            have H' := Aside0.mk H
            clear H
            try go_wp2
            have n0_ := Aside0.mk (Kd.R_drew HO_7.out)
            have n1_ := Aside0.mk (Kd.R_drew HO_8.out)
            have n2_ := Aside0.mk (blk_drew BK405.out)
            have n3_ := Aside0.mk (blk_drew BK406.out)
            have n4_ := Aside0.mk (blk_drew BK407.out)
            have n5_ := Aside0.mk (blk_drew BK408.out)
            have n6_ := Aside0.mk (blk_drew BK421.out)
            have n7_ := Aside0.mk (below_drew1 HB.out)
            clear HO_7 HO_8 BK405 BK406 BK407 BK408 BK421 HB
            have HO_7 := n0_
            have HO_8 := n1_
            have BK405 := n2_
            have BK406 := n3_
            have BK407 := n4_
            have BK408 := n5_
            have BK421 := n6_
            have HB := n7_
            clear n0_ n1_ n2_ n3_ n4_ n5_ n6_ n7_
            have p422 : 0 ≤ (x12_1 : Int) := of_decide_eq_true (by first | (with_reducible assumption) | assumption)
            have q422 : x12_1 < (t409.length : Int) := of_decide_eq_true (by first | (with_reducible assumption) | assumption)
            obtain ⟨ad422, e422, hx422_0⟩ := Kd.at_int (Kd.R_reads' HO_7.out).2.2 x12_1 p422 q422
            obtain rfl : ad415 = ad422 := (by injection e422)
            replace p422 := eq_true p422
            replace q422 := eq_true q422
            have p423 : 0 ≤ (x13_2 : Int) := of_decide_eq_true (by first | (with_reducible assumption) | assumption)
            have q423 : x13_2 < (t412.length : Int) := of_decide_eq_true (by first | (with_reducible assumption) | assumption)
            obtain ⟨ad423, e423, hx423_0⟩ := Kd.at_int (Kd.R_reads' HO_8.out).2.2 x13_2 p423 q423
            obtain rfl : ad416 = ad423 := (by injection e423)
            replace p423 := eq_true p423
            replace q423 := eq_true q423
            refine start_ (n := 15) (S := fun w' => w'.cell? ⟨gb405, 0, none⟩ = some (.slice A0_0 l0_0.length c0_0) ∧ w'.cell? ⟨gb405, 1, none⟩ = some (.slice A0_1 l0_1.length c0_1) ∧ w'.cell? ⟨gb405, 2, none⟩ = some (.slice A0_2 l0_2.length c0_2) ∧ w'.cell? (ad415.add (x12_1).toNat) = some (.int .i64 (rd t409 x12_1)) ∧ w'.cell? (ad416.add (x13_2).toNat) = some (.int .i64 (rd t412 x13_2))) (ds := []) #[false, false, false, false, false, false, false, false, false, false, false, false, false, false, false] (by kernel_rfl) rfl rfl ⟨(blk_cell BK405.out 0).trans rfl, (blk_cell BK405.out 1).trans rfl, (blk_cell BK405.out 2).trans rfl, hx422_0, hx423_0⟩ (fun hHeld => ?_); refine with_tabW swashplateref01_boundP.tab10 swashplateref01_boundP.bits10 (fun HT_ HW_ => ?_)
            generalize wr.drew = w38 at HO_7 HO_8 BK405 BK406 BK407 BK408 BK421 HB hx422_0 hx423_0 hHeld ⊢
            refine pure_ (i := 1) (N := some 54) (v := ?_) (a' := ?_) #[false, true, false, false, false, false, false, false, false, false, false, false, false, false, false] rfl rfl (any_of HT_.out (by kernel_rfl)) (fun _ _ _ h => h) (Or.inl ⟨by rfl, ?_⟩) ?_ ?_
            rotate_left
            ·
             intro w'
             go_simp
             with_reducible rfl
            rotate_left
            ·
             simp only [Act.put, List.setIfInBounds_toArray, List.set_cons_zero, List.set_cons_succ, i64_w, i32_w]
             rfl
            refine pure_ (i := 2) (N := some 55) (v := ?_) (a' := ?_) #[false, true, true, false, false, false, false, false, false, false, false, false, false, false, false] rfl rfl (any_of HT_.out (by kernel_rfl)) (fun _ _ _ h => h) (Or.inl ⟨by rfl, ?_⟩) ?_ ?_
            rotate_left
            ·
             intro w'
             go_simp
             with_reducible rfl
            rotate_left
            ·
             simp only [Act.put, List.setIfInBounds_toArray, List.set_cons_zero, List.set_cons_succ, i64_w, i32_w]
             rfl
            refine pure_ (i := 3) (N := some 56) (v := ?_) (a' := ?_) #[false, true, true, true, false, false, false, false, false, false, false, false, false, false, false] rfl rfl (any_of HT_.out (by kernel_rfl)) (fun _ _ _ h => h) (Or.inl ⟨by rfl, ?_⟩) ?_ ?_
            rotate_left
            ·
             intro w'
             go_simp
             with_reducible rfl
            rotate_left
            ·
             simp only [Act.put, List.setIfInBounds_toArray, List.set_cons_zero, List.set_cons_succ, i64_w, i32_w]
             rfl
            refine pure_ (i := 5) (N := some 58) (v := ?_) (a' := ?_) #[false, true, true, true, false, true, false, false, false, false, false, false, false, false, false] rfl rfl (any_of HT_.out (by kernel_rfl)) (fun _ _ _ h => h) (Or.inl ⟨by rfl, ?_⟩) ?_ ?_
            rotate_left
            ·
             intro w'
             go_simp
             with_reducible rfl
            rotate_left
            ·
             simp only [Act.put, List.setIfInBounds_toArray, List.set_cons_zero, List.set_cons_succ, i64_w, i32_w]
             rfl
            refine pure_ (i := 6) (N := some 59) (v := ?_) (a' := ?_) #[false, true, true, true, false, true, true, false, false, false, false, false, false, false, false] rfl rfl (any_of HT_.out (by kernel_rfl)) (fun _ _ _ h => h) (Or.inl ⟨by rfl, ?_⟩) ?_ ?_
            rotate_left
            ·
             intro w'
             go_simp
             with_reducible rfl
            rotate_left
            ·
             simp only [Act.put, List.setIfInBounds_toArray, List.set_cons_zero, List.set_cons_succ, i64_w, i32_w]
             rfl
            refine pure_ (i := 7) (N := some 60) (v := ?_) (a' := ?_) #[false, true, true, true, false, true, true, true, false, false, false, false, false, false, false] rfl rfl (any_of HT_.out (by kernel_rfl)) (fun _ _ _ h => h) (Or.inl ⟨by rfl, ?_⟩) ?_ ?_
            rotate_left
            ·
             intro w'
             go_simp
             with_reducible rfl
            rotate_left
            ·
             simp only [Act.put, List.setIfInBounds_toArray, List.set_cons_zero, List.set_cons_succ, i64_w, i32_w]
             rfl
            refine take_ (i := 0) (N := some 53) (v := ?_) (a' := ?_) #[true, true, true, true, false, true, true, true, false, false, false, false, false, false, false] rfl rfl (take_ofW HT_.out HW_.out (by kernel_rfl)) (fun _ _ _ h => h) (Or.inl ⟨by rfl, ?_⟩) hHeld ?_ ?_
            rotate_left
            ·
             rintro w' ⟨s0, s1, s2, s3, s4⟩
             go_simp
             with_reducible rfl
            rotate_left
            ·
             simp only [Act.put, List.setIfInBounds_toArray, List.set_cons_zero, List.set_cons_succ, i64_w, i32_w]
             rfl
            refine take_ (i := 4) (N := some 57) (v := ?_) (a' := ?_) #[true, true, true, true, true, true, true, true, false, false, false, false, false, false, false] rfl rfl (take_ofW HT_.out HW_.out (by kernel_rfl)) (fun _ _ _ h => h) (Or.inl ⟨by rfl, ?_⟩) hHeld ?_ ?_
            rotate_left
            ·
             rintro w' ⟨s0, s1, s2, s3, s4⟩
             go_simp
             with_reducible rfl
            rotate_left
            ·
             simp only [Act.put, List.setIfInBounds_toArray, List.set_cons_zero, List.set_cons_succ, i64_w, i32_w]
             rfl
            refine take_ (i := 8) (N := some 61) (v := ?_) (a' := ?_) #[true, true, true, true, true, true, true, true, true, false, false, false, false, false, false] rfl rfl (take_ofW HT_.out HW_.out (by kernel_rfl)) (fun _ _ _ h => h) (Or.inl ⟨by rfl, ?_⟩) hHeld ?_ ?_
            rotate_left
            ·
             rintro w' ⟨s0, s1, s2, s3, s4⟩
             go_simp
             with_reducible rfl
            rotate_left
            ·
             simp only [Act.put, List.setIfInBounds_toArray, List.set_cons_zero, List.set_cons_succ, i64_w, i32_w]
             rfl
            refine one_ (i := 9) (N := some 62) #[true, true, true, true, true, true, true, true, true, true, false, false, false, false, false] rfl rfl (one_of HT_.out (by kernel_rfl)) (by decide) (fun K hK => ?_)
            refine goes_ Try.func102 (by kernel_rfl) rfl #[.agg #[.slice A0_0 l0_0.length c0_0, .slice A0_1 l0_1.length c0_1, .slice A0_2 l0_2.length c0_2], .int .i64 (rd t409 x12_1), .int .i64 (rd t412 x13_2)] (by rfl) rfl rfl (by (try simp only [List.map_toArray, List.map_cons, List.map_nil]); first | done | rfl | (simp only [List.length_drop, List.length_take]; rfl)) ?_
            with_reducible refine (swashplateref01_Value.calls _ _ l0_0 _ _ l0_1 _ _ l0_2 (rd t409 x12_1) (rd t412 x13_2) t424 t425 _ ?side1 ?side2 ?side3 ?side4 ?side5 ?side6 A33.out).mono ?_
            (case side1 => exact cr_ (Kd.C_below HR0_0.out HB.out))
            (case side2 => exact HC0_0.out)
            (case side3 => exact cr_ (Kd.C_below HR0_1.out HB.out))
            (case side4 => exact HC0_1.out)
            (case side5 => exact cr_ (Kd.C_below HR0_2.out HB.out))
            (case side6 => exact HC0_2.out)
            rintro e w39 ⟨rfl, hb⟩
            have HS3_ := (hb.cell (World.block_lt_of_cell? _ _ (hHeld.2.2.2.1))).trans (hHeld.2.2.2.1)
            have HS4_ := (hb.cell (World.block_lt_of_cell? _ _ (hHeld.2.2.2.2))).trans (hHeld.2.2.2.2)
            refine ⟨_, rfl, ?_⟩
            have n0_ := Aside0.mk (Kd.R_below (by (with_reducible repeat (first | apply Kd.R_alloc | apply Kd.R_drewN | apply Kd.R_drew)); exact HO_7.out) hb)
            have n1_ := Aside0.mk (Kd.R_below (by (with_reducible repeat (first | apply Kd.R_alloc | apply Kd.R_drewN | apply Kd.R_drew)); exact HO_8.out) hb)
            have n2_ := Aside0.mk (blk_below (bk_ BK405.out) hb)
            have n3_ := Aside0.mk (blk_below (bk_ BK406.out) hb)
            have n4_ := Aside0.mk (blk_below (bk_ BK407.out) hb)
            have n5_ := Aside0.mk (blk_below (bk_ BK408.out) hb)
            have n6_ := Aside0.mk (blk_below (bk_ BK421.out) hb)
            have n7_ := Aside0.mk (below_step (bl_ HB.out) hb)
            clear HO_7 HO_8 BK405 BK406 BK407 BK408 BK421 HB
            have HO_7 := n0_
            have HO_8 := n1_
            have BK405 := n2_
            have BK406 := n3_
            have BK407 := n4_
            have BK408 := n5_
            have BK421 := n6_
            have HB := n7_
            clear n0_ n1_ n2_ n3_ n4_ n5_ n6_ n7_
            (try clear hb)
            (try clear hb2)
            (try clear hk)
            (try clear hi)
            refine hK.out _ _ ⟨(blk_cell BK405.out 0).trans rfl, (blk_cell BK405.out 1).trans rfl, (blk_cell BK405.out 2).trans rfl, HS3_, HS4_⟩ (fun hHeld => ?_)
            clear hK K
            refine norm_ (a' := ?_) ?_ ?_
            rotate_left
            ·
             show Act.put _ (some 62) _ = _
             simp only [Act.put, List.setIfInBounds_toArray, List.set_cons_zero, List.set_cons_succ, i64_w, i32_w]
             rfl
            refine pure_ (i := 10) (N := some 52) (v := ?_) (a' := ?_) #[true, true, true, true, true, true, true, true, true, true, true, false, false, false, false] rfl rfl (any_of HT_.out (by kernel_rfl)) (fun _ _ _ h => h) (Or.inl ⟨by rfl, ?_⟩) ?_ ?_
            rotate_left
            ·
             intro w'
             go_simp
             with_reducible rfl
            rotate_left
            ·
             simp only [Act.put, List.setIfInBounds_toArray, List.set_cons_zero, List.set_cons_succ, i64_w, i32_w]
             rfl
            refine pure_ (i := 11) (N := some 63) (v := ?_) (a' := ?_) #[true, true, true, true, true, true, true, true, true, true, true, true, false, false, false] rfl rfl (any_of HT_.out (by kernel_rfl)) (fun _ _ _ h => h) (Or.inl ⟨by rfl, ?_⟩) ?_ ?_
            rotate_left
            ·
             intro w'
             go_simp
             with_reducible rfl
            rotate_left
            ·
             simp only [Act.put, List.setIfInBounds_toArray, List.set_cons_zero, List.set_cons_succ, i64_w, i32_w]
             rfl
            refine pure_ (i := 12) (N := some 64) (v := ?_) (a' := ?_) #[true, true, true, true, true, true, true, true, true, true, true, true, true, false, false] rfl rfl (any_of HT_.out (by kernel_rfl)) (fun _ _ _ h => h) (Or.inl ⟨by rfl, ?_⟩) ?_ ?_
            rotate_left
            ·
             intro w'
             go_simp
             with_reducible rfl
            rotate_left
            ·
             simp only [Act.put, List.setIfInBounds_toArray, List.set_cons_zero, List.set_cons_succ, i64_w, i32_w]
             rfl
            refine pure_ (i := 13) (N := some 9) (v := ?_) (a' := ?_) #[true, true, true, true, true, true, true, true, true, true, true, true, true, true, false] rfl rfl (any_of HT_.out (by kernel_rfl)) (fun _ _ _ h => h) (Or.inl ⟨by rfl, ?_⟩) ?_ ?_
            rotate_left
            ·
             intro w'
             go_simp
             with_reducible rfl
            rotate_left
            ·
             simp only [Act.put, List.setIfInBounds_toArray, List.set_cons_zero, List.set_cons_succ, i64_w, i32_w]
             rfl
            refine pure_ (i := 14) (N := some 10) (v := ?_) (a' := ?_) #[true, true, true, true, true, true, true, true, true, true, true, true, true, true, true] rfl rfl (any_of HT_.out (by kernel_rfl)) (fun _ _ _ h => h) (Or.inl ⟨by rfl, ?_⟩) ?_ ?_
            rotate_left
            ·
             intro w'
             go_simp
             with_reducible rfl
            rotate_left
            ·
             simp only [Act.put, List.setIfInBounds_toArray, List.set_cons_zero, List.set_cons_succ, i64_w, i32_w]
             rfl
            refine done_ (done_of HT_.out (by kernel_rfl)) ?_
            try go_wp2
            have n0_ := Aside0.mk (Kd.R_drew HO_7.out)
            have n1_ := Aside0.mk (Kd.R_drew HO_8.out)
            have n2_ := Aside0.mk (blk_drew BK405.out)
            have n3_ := Aside0.mk (blk_drew BK406.out)
            have n4_ := Aside0.mk (blk_drew BK407.out)
            have n5_ := Aside0.mk (blk_drew BK408.out)
            have n6_ := Aside0.mk (blk_drew BK421.out)
            have n7_ := Aside0.mk (below_drew1 HB.out)
            clear HO_7 HO_8 BK405 BK406 BK407 BK408 BK421 HB
            have HO_7 := n0_
            have HO_8 := n1_
            have BK405 := n2_
            have BK406 := n3_
            have BK407 := n4_
            have BK408 := n5_
            have BK421 := n6_
            have HB := n7_
            clear n0_ n1_ n2_ n3_ n4_ n5_ n6_ n7_
            refine start_ (n := 8) (S := fun w' => w'.cell? ⟨gb421, 0, none⟩ = some (.int .i64 x422000_2) ∧ w'.cell? ⟨gb421, 1, none⟩ = some (.int .i64 x422001_2)) (ds := [7]) #[false, false, false, false, false, false, false, false] (by kernel_rfl) rfl rfl ⟨(blk_cell BK421.out 0).trans rfl, (blk_cell BK421.out 1).trans rfl⟩ (fun hHeld => ?_); refine with_tabW swashplateref01_boundP.tab11 swashplateref01_boundP.bits11 (fun HT_ HW_ => ?_)
            generalize w39.drew = w40 at HO_7 HO_8 BK405 BK406 BK407 BK408 BK421 HB hHeld ⊢
            refine pure_ (i := 0) (N := some 65) (v := ?_) (a' := ?_) #[true, false, false, false, false, false, false, false] rfl rfl (any_of HT_.out (by kernel_rfl)) (fun _ _ _ h => h) (Or.inl ⟨by rfl, ?_⟩) ?_ ?_
            rotate_left
            ·
             intro w'
             go_simp
             with_reducible rfl
            rotate_left
            ·
             simp only [Act.put, List.setIfInBounds_toArray, List.set_cons_zero, List.set_cons_succ, i64_w, i32_w]
             rfl
            refine pure_ (i := 2) (N := some 67) (v := ?_) (a' := ?_) #[true, false, true, false, false, false, false, false] rfl rfl (any_of HT_.out (by kernel_rfl)) (fun _ _ _ h => h) (Or.inl ⟨by rfl, ?_⟩) ?_ ?_
            rotate_left
            ·
             intro w'
             go_simp
             with_reducible rfl
            rotate_left
            ·
             simp only [Act.put, List.setIfInBounds_toArray, List.set_cons_zero, List.set_cons_succ, i64_w, i32_w]
             rfl
            refine pure_ (i := 3) (N := some 68) (v := ?_) (a' := ?_) #[true, false, true, true, false, false, false, false] rfl rfl (any_of HT_.out (by kernel_rfl)) (fun _ _ _ h => h) (Or.inl ⟨by rfl, ?_⟩) ?_ ?_
            rotate_left
            ·
             intro w'
             go_simp
             with_reducible rfl
            rotate_left
            ·
             simp only [Act.put, List.setIfInBounds_toArray, List.set_cons_zero, List.set_cons_succ, i64_w, i32_w]
             rfl
            refine take_ (i := 1) (N := some 66) (v := ?_) (a' := ?_) #[true, true, true, true, false, false, false, false] rfl rfl (take_ofW HT_.out HW_.out (by kernel_rfl)) (fun _ _ _ h => h) (Or.inl ⟨by rfl, ?_⟩) hHeld ?_ ?_
            rotate_left
            ·
             rintro w' ⟨s0, s1⟩
             go_simp
             with_reducible rfl
            rotate_left
            ·
             simp only [Act.put, List.setIfInBounds_toArray, List.set_cons_zero, List.set_cons_succ, i64_w, i32_w]
             rfl
            refine one_ (i := 4) (N := some 69) #[true, true, true, true, true, false, false, false] rfl rfl (one_of HT_.out (by kernel_rfl)) (by decide) (fun K hK => ?_)
            refine goes_ Try.func107 (by kernel_rfl) rfl #[.int .i64 t424, .int .i64 t425] (by rfl) rfl rfl (by (try simp only [List.map_toArray, List.map_cons, List.map_nil]); first | done | rfl | (simp only [List.length_drop, List.length_take]; rfl)) ?_
            with_reducible refine (swashplateref01_floor.calls t424 t425 t426 _ A34.out).mono ?_
            rintro e w' ⟨rfl, ⟨nd, rfl⟩⟩
            refine ⟨_, rfl, ?_⟩
            refine hK.out _ _ ⟨(blk_cell BK421.out 0).trans rfl, (blk_cell BK421.out 1).trans rfl⟩ (fun hHeld => ?_)
            clear hK K
            refine norm_ (a' := ?_) ?_ ?_
            rotate_left
            ·
             show Act.put _ (some 69) _ = _
             simp only [Act.put, List.setIfInBounds_toArray, List.set_cons_zero, List.set_cons_succ, i64_w, i32_w]
             rfl
            refine pure_ (i := 5) (N := some 70) (v := ?_) (a' := ?_) #[true, true, true, true, true, true, false, false] rfl rfl (any_of HT_.out (by kernel_rfl)) (fun _ _ _ h => h) (Or.inl ⟨by rfl, ?_⟩) ?_ ?_
            rotate_left
            ·
             intro w'
             go_simp
             with_reducible rfl
            rotate_left
            ·
             simp only [Act.put, List.setIfInBounds_toArray, List.set_cons_zero, List.set_cons_succ, i64_w, i32_w]
             rfl
            refine pure_ (i := 6) (N := some 71) (v := ?_) (a' := ?_) #[true, true, true, true, true, true, true, false] rfl rfl (any_of HT_.out (by kernel_rfl)) (fun _ _ _ h => h) (Or.inl ⟨by rfl, ?_⟩) ?_ ?_
            rotate_left
            ·
             intro w'
             go_simp
             with_reducible rfl
            rotate_left
            ·
             simp only [Act.put, List.setIfInBounds_toArray, List.set_cons_zero, List.set_cons_succ, i64_w, i32_w]
             rfl
            refine last_ (i := 7) (N := none) #[true, true, true, true, true, true, true, true] rfl rfl (one_of HT_.out (by kernel_rfl)) (by decide) (fun K hK => ?_)
            have hs41 : w40.cell? ⟨gb421, 0, none⟩ = some (.int .i64 x422000_2) := (blk_cell BK421.out 0).trans rfl
            have hfs41 := blk_frozen BK421.out 0
            have hns41_0 := NB405_421.out
            have hns41_1 := NB406_421.out
            have hns41_2 := NB407_421.out
            have hns41_3 := NB408_421.out
            have hms41_0 := NB421_405.out
            have hms41_1 := NB421_406.out
            have hms41_2 := NB421_407.out
            have hms41_3 := NB421_408.out
            refine skip_ (w1 := ?_) (by rfl) rfl ?_ ?_
            rotate_left
            ·
             go_simp
             rfl
            refine hK.out _ _ ?_
            clear hK K
            refine done_ (done_of HT_.out (by kernel_rfl)) ?_
            try go_wp2
            have n0_ : Aside0 (Kd.R (Kd.int .i64) 3 ((w40.drewN nd).setCell ⟨gb421, 0, none⟩ (.int .i64 ji35)) w.heap.size (fun k_ => some k_ ≠ (.slice (some ad416) t412.length co20 : Value).ownBlock) (.slice (some ad415) t409.length co19) t409) := ⟨by (with_reducible repeat (first | apply Kd.R_alloc | apply Kd.R_drewN | apply Kd.R_drew)); exact Kd.R_mono (Kd.R_far (p := ⟨gb421, 0, none⟩) (Kd.R_types HO_7.out BK421.out (by decide)) (fun _ hk => hk.2) (.int .i64 ji35)) (fun _ hk => hk.1)⟩
            have n1_ : Aside0 (Kd.R (Kd.int .i64) 3 ((w40.drewN nd).setCell ⟨gb421, 0, none⟩ (.int .i64 ji35)) w.heap.size (fun k_ => some k_ ≠ (.slice (some ad415) t409.length co19 : Value).ownBlock) (.slice (some ad416) t412.length co20) t412) := ⟨by (with_reducible repeat (first | apply Kd.R_alloc | apply Kd.R_drewN | apply Kd.R_drew)); exact Kd.R_mono (Kd.R_far (p := ⟨gb421, 0, none⟩) (Kd.R_types HO_8.out BK421.out (by decide)) (fun _ hk => hk.2) (.int .i64 ji35)) (fun _ hk => hk.1)⟩
            have n2_ : Aside0 (((w40.drewN nd).setCell ⟨gb421, 0, none⟩ (.int .i64 ji35)).heap[gb405]? = some (.cells #[.slice A0_0 l0_0.length c0_0, .slice A0_1 l0_1.length c0_1, .slice A0_2 l0_2.length c0_2] 25 (0, 0))) := ⟨by (with_reducible repeat (first | refine blk_drewN ?_ _ | refine blk_drew ?_ | refine blk_alloc ?_ _)); refine blk_far ?_ NB405_421.out _; (with_reducible repeat (first | refine blk_drewN ?_ _ | refine blk_drew ?_ | refine blk_alloc ?_ _)); exact BK405.out⟩
            have n3_ : Aside0 (((w40.drewN nd).setCell ⟨gb421, 0, none⟩ (.int .i64 ji35)).heap[gb406]? = some (.cells #[.int .i64 a1_0, .int .i64 a1_1] 27 (0, 0))) := ⟨by (with_reducible repeat (first | refine blk_drewN ?_ _ | refine blk_drew ?_ | refine blk_alloc ?_ _)); refine blk_far ?_ NB406_421.out _; (with_reducible repeat (first | refine blk_drewN ?_ _ | refine blk_drew ?_ | refine blk_alloc ?_ _)); exact BK406.out⟩
            have n4_ : Aside0 (((w40.drewN nd).setCell ⟨gb421, 0, none⟩ (.int .i64 ji35)).heap[gb407]? = some (.cells #[.int .i64 a2_0, .int .i64 a2_1] 27 (0, 0))) := ⟨by (with_reducible repeat (first | refine blk_drewN ?_ _ | refine blk_drew ?_ | refine blk_alloc ?_ _)); refine blk_far ?_ NB407_421.out _; (with_reducible repeat (first | refine blk_drewN ?_ _ | refine blk_drew ?_ | refine blk_alloc ?_ _)); exact BK407.out⟩
            have n5_ : Aside0 (((w40.drewN nd).setCell ⟨gb421, 0, none⟩ (.int .i64 ji35)).heap[gb408]? = some (.cells #[.int .i64 0, .int .i64 0] 27 (0, 0))) := ⟨by (with_reducible repeat (first | refine blk_drewN ?_ _ | refine blk_drew ?_ | refine blk_alloc ?_ _)); refine blk_far ?_ NB408_421.out _; (with_reducible repeat (first | refine blk_drewN ?_ _ | refine blk_drew ?_ | refine blk_alloc ?_ _)); exact BK408.out⟩
            have n6_ : Aside0 (((w40.drewN nd).setCell ⟨gb421, 0, none⟩ (.int .i64 ji35)).heap[gb421]? = some (.cells #[.int .i64 ji35, .int .i64 x422001_2] 27 (0, 0))) := ⟨by (with_reducible repeat (first | refine blk_drewN ?_ _ | refine blk_drew ?_ | refine blk_alloc ?_ _)); refine blk_put (cs := #[.int .i64 x422000_2, .int .i64 x422001_2]) ?_ 0 _ rfl; (with_reducible repeat (first | refine blk_drewN ?_ _ | refine blk_drew ?_ | refine blk_alloc ?_ _)); exact BK421.out⟩
            have n7_ : Aside0 (Below w.heap.size w ((w40.drewN nd).setCell ⟨gb421, 0, none⟩ (.int .i64 ji35))) := ⟨bl_ HB.out⟩
            (try clear HO_7)
            (try clear HO_8)
            (try clear BK405)
            (try clear BK406)
            (try clear BK407)
            (try clear BK408)
            (try clear BK421)
            (try clear HB)
            generalize ((w40.drewN nd).setCell ⟨gb421, 0, none⟩ (.int .i64 ji35)) = w42 at n0_ n1_ n2_ n3_ n4_ n5_ n6_ n7_ ⊢
            have HO_7 := n0_
            have HO_8 := n1_
            have BK405 := n2_
            have BK406 := n3_
            have BK407 := n4_
            have BK408 := n5_
            have BK421 := n6_
            have HB := n7_
            clear n0_ n1_ n2_ n3_ n4_ n5_ n6_ n7_
            (try (rw [drewN_self w42]; generalize hq_ : World.drewN w42 _ = w42; have n0_ : Aside0 (Kd.R (Kd.int .i64) 3 w42 w.heap.size (fun k_ => some k_ ≠ (.slice (some ad416) t412.length co20 : Value).ownBlock) (.slice (some ad415) t409.length co19) t409) := ⟨by rw [← hq_]; exact (by (with_reducible repeat (first | apply Kd.R_alloc | apply Kd.R_drewN | apply Kd.R_drew)); exact HO_7.out)⟩; have n1_ : Aside0 (Kd.R (Kd.int .i64) 3 w42 w.heap.size (fun k_ => some k_ ≠ (.slice (some ad415) t409.length co19 : Value).ownBlock) (.slice (some ad416) t412.length co20) t412) := ⟨by rw [← hq_]; exact (by (with_reducible repeat (first | apply Kd.R_alloc | apply Kd.R_drewN | apply Kd.R_drew)); exact HO_8.out)⟩; have n2_ : Aside0 (w42.heap[gb405]? = some (.cells #[.slice A0_0 l0_0.length c0_0, .slice A0_1 l0_1.length c0_1, .slice A0_2 l0_2.length c0_2] 25 (0, 0))) := ⟨by rw [← hq_]; exact (bk_ BK405.out)⟩; have n3_ : Aside0 (w42.heap[gb406]? = some (.cells #[.int .i64 a1_0, .int .i64 a1_1] 27 (0, 0))) := ⟨by rw [← hq_]; exact (bk_ BK406.out)⟩; have n4_ : Aside0 (w42.heap[gb407]? = some (.cells #[.int .i64 a2_0, .int .i64 a2_1] 27 (0, 0))) := ⟨by rw [← hq_]; exact (bk_ BK407.out)⟩; have n5_ : Aside0 (w42.heap[gb408]? = some (.cells #[.int .i64 0, .int .i64 0] 27 (0, 0))) := ⟨by rw [← hq_]; exact (bk_ BK408.out)⟩; have n6_ : Aside0 (w42.heap[gb421]? = some (.cells #[.int .i64 ji35, .int .i64 x422001_2] 27 (0, 0))) := ⟨by rw [← hq_]; exact (bk_ BK421.out)⟩; have n7_ : Aside0 (Below w.heap.size w w42) := ⟨by rw [← hq_]; exact (bl_ HB.out)⟩; clear HO_7 HO_8 BK405 BK406 BK407 BK408 BK421 HB hq_; have HO_7 := n0_; have HO_8 := n1_; have BK405 := n2_; have BK406 := n3_; have BK407 := n4_; have BK408 := n5_; have BK421 := n6_; have HB := n7_; clear n0_ n1_ n2_ n3_ n4_ n5_ n6_ n7_))
            have n0_ := Aside0.mk (Kd.R_drew HO_7.out)
            have n1_ := Aside0.mk (Kd.R_drew HO_8.out)
            have n2_ := Aside0.mk (blk_drew BK405.out)
            have n3_ := Aside0.mk (blk_drew BK406.out)
            have n4_ := Aside0.mk (blk_drew BK407.out)
            have n5_ := Aside0.mk (blk_drew BK408.out)
            have n6_ := Aside0.mk (blk_drew BK421.out)
            have n7_ := Aside0.mk (below_drew1 HB.out)
            clear HO_7 HO_8 BK405 BK406 BK407 BK408 BK421 HB
            have HO_7 := n0_
            have HO_8 := n1_
            have BK405 := n2_
            have BK406 := n3_
            have BK407 := n4_
            have BK408 := n5_
            have BK421 := n6_
            have HB := n7_
            clear n0_ n1_ n2_ n3_ n4_ n5_ n6_ n7_
            refine start_ (n := 8) (S := fun w' => w'.cell? ⟨gb421, 0, none⟩ = some (.int .i64 ji35) ∧ w'.cell? ⟨gb421, 1, none⟩ = some (.int .i64 x422001_2)) (ds := [7]) #[false, false, false, false, false, false, false, false] (by kernel_rfl) rfl rfl ⟨(blk_cell BK421.out 0).trans rfl, (blk_cell BK421.out 1).trans rfl⟩ (fun hHeld => ?_); refine with_tabW swashplateref01_boundP.tab12 swashplateref01_boundP.bits12 (fun HT_ HW_ => ?_)
            generalize w42.drew = w43 at HO_7 HO_8 BK405 BK406 BK407 BK408 BK421 HB hHeld ⊢
            refine pure_ (i := 0) (N := some 72) (v := ?_) (a' := ?_) #[true, false, false, false, false, false, false, false] rfl rfl (any_of HT_.out (by kernel_rfl)) (fun _ _ _ h => h) (Or.inl ⟨by rfl, ?_⟩) ?_ ?_
            rotate_left
            ·
             intro w'
             go_simp
             with_reducible rfl
            rotate_left
            ·
             simp only [Act.put, List.setIfInBounds_toArray, List.set_cons_zero, List.set_cons_succ, i64_w, i32_w]
             rfl
            refine pure_ (i := 2) (N := some 74) (v := ?_) (a' := ?_) #[true, false, true, false, false, false, false, false] rfl rfl (any_of HT_.out (by kernel_rfl)) (fun _ _ _ h => h) (Or.inl ⟨by rfl, ?_⟩) ?_ ?_
            rotate_left
            ·
             intro w'
             go_simp
             with_reducible rfl
            rotate_left
            ·
             simp only [Act.put, List.setIfInBounds_toArray, List.set_cons_zero, List.set_cons_succ, i64_w, i32_w]
             rfl
            refine pure_ (i := 3) (N := some 75) (v := ?_) (a' := ?_) #[true, false, true, true, false, false, false, false] rfl rfl (any_of HT_.out (by kernel_rfl)) (fun _ _ _ h => h) (Or.inl ⟨by rfl, ?_⟩) ?_ ?_
            rotate_left
            ·
             intro w'
             go_simp
             with_reducible rfl
            rotate_left
            ·
             simp only [Act.put, List.setIfInBounds_toArray, List.set_cons_zero, List.set_cons_succ, i64_w, i32_w]
             rfl
            refine take_ (i := 1) (N := some 73) (v := ?_) (a' := ?_) #[true, true, true, true, false, false, false, false] rfl rfl (take_ofW HT_.out HW_.out (by kernel_rfl)) (fun _ _ _ h => h) (Or.inl ⟨by rfl, ?_⟩) hHeld ?_ ?_
            rotate_left
            ·
             rintro w' ⟨s0, s1⟩
             go_simp
             with_reducible rfl
            rotate_left
            ·
             simp only [Act.put, List.setIfInBounds_toArray, List.set_cons_zero, List.set_cons_succ, i64_w, i32_w]
             rfl
            refine one_ (i := 4) (N := some 76) #[true, true, true, true, true, false, false, false] rfl rfl (one_of HT_.out (by kernel_rfl)) (by decide) (fun K hK => ?_)
            refine goes_ Try.func108 (by kernel_rfl) rfl #[.int .i64 t424, .int .i64 t425] (by rfl) rfl rfl (by (try simp only [List.map_toArray, List.map_cons, List.map_nil]); first | done | rfl | (simp only [List.length_drop, List.length_take]; rfl)) ?_
            with_reducible refine (swashplateref01_ceil.calls t424 t425 t427 _ A36.out).mono ?_
            rintro e w' ⟨rfl, ⟨nd, rfl⟩⟩
            refine ⟨_, rfl, ?_⟩
            refine hK.out _ _ ⟨(blk_cell BK421.out 0).trans rfl, (blk_cell BK421.out 1).trans rfl⟩ (fun hHeld => ?_)
            clear hK K
            refine norm_ (a' := ?_) ?_ ?_
            rotate_left
            ·
             show Act.put _ (some 76) _ = _
             simp only [Act.put, List.setIfInBounds_toArray, List.set_cons_zero, List.set_cons_succ, i64_w, i32_w]
             rfl
            refine pure_ (i := 5) (N := some 77) (v := ?_) (a' := ?_) #[true, true, true, true, true, true, false, false] rfl rfl (any_of HT_.out (by kernel_rfl)) (fun _ _ _ h => h) (Or.inl ⟨by rfl, ?_⟩) ?_ ?_
            rotate_left
            ·
             intro w'
             go_simp
             with_reducible rfl
            rotate_left
            ·
             simp only [Act.put, List.setIfInBounds_toArray, List.set_cons_zero, List.set_cons_succ, i64_w, i32_w]
             rfl
            refine pure_ (i := 6) (N := some 78) (v := ?_) (a' := ?_) #[true, true, true, true, true, true, true, false] rfl rfl (any_of HT_.out (by kernel_rfl)) (fun _ _ _ h => h) (Or.inl ⟨by rfl, ?_⟩) ?_ ?_
            rotate_left
            ·
             intro w'
             go_simp
             with_reducible rfl
            rotate_left
            ·
             simp only [Act.put, List.setIfInBounds_toArray, List.set_cons_zero, List.set_cons_succ, i64_w, i32_w]
             rfl
            refine last_ (i := 7) (N := none) #[true, true, true, true, true, true, true, true] rfl rfl (one_of HT_.out (by kernel_rfl)) (by decide) (fun K hK => ?_)
            have hs44 : w43.cell? ⟨gb421, 1, none⟩ = some (.int .i64 x422001_2) := (blk_cell BK421.out 1).trans rfl
            have hfs44 := blk_frozen BK421.out 1
            have hns44_0 := NB405_421.out
            have hns44_1 := NB406_421.out
            have hns44_2 := NB407_421.out
            have hns44_3 := NB408_421.out
            have hms44_0 := NB421_405.out
            have hms44_1 := NB421_406.out
            have hms44_2 := NB421_407.out
            have hms44_3 := NB421_408.out
            refine skip_ (w1 := ?_) (by rfl) rfl ?_ ?_
            rotate_left
            ·
             go_simp
             rfl
            refine hK.out _ _ ?_
            clear hK K
            refine done_ (done_of HT_.out (by kernel_rfl)) ?_
            try go_wp2
            go_roundg k2
            case measure => have := HK1.out; have := HK2.out; omega
            case rel => exact ⟨(wrap64 (x13_2 + 1)), (ji35), (ji37), (by first | rfl | (simp; done) | (simp [*]; done)), H', ⟨by have := HK1.out; have := HK2.out; omega⟩, ⟨by (with_reducible repeat (first | apply Kd.R_alloc | apply Kd.R_drewN | apply Kd.R_drew)); exact Kd.R_mono (Kd.R_far (p := ⟨gb421, 1, none⟩) (Kd.R_types HO_7.out BK421.out (by decide)) (fun _ hk => hk.2) (.int .i64 ji37)) (fun _ hk => hk.1)⟩, ⟨by (with_reducible repeat (first | apply Kd.R_alloc | apply Kd.R_drewN | apply Kd.R_drew)); exact Kd.R_mono (Kd.R_far (p := ⟨gb421, 1, none⟩) (Kd.R_types HO_8.out BK421.out (by decide)) (fun _ hk => hk.2) (.int .i64 ji37)) (fun _ hk => hk.1)⟩, ⟨by (with_reducible repeat (first | refine blk_drewN ?_ _ | refine blk_drew ?_ | refine blk_alloc ?_ _)); refine blk_far ?_ NB405_421.out _; (with_reducible repeat (first | refine blk_drewN ?_ _ | refine blk_drew ?_ | refine blk_alloc ?_ _)); exact BK405.out⟩, ⟨by (with_reducible repeat (first | refine blk_drewN ?_ _ | refine blk_drew ?_ | refine blk_alloc ?_ _)); refine blk_far ?_ NB406_421.out _; (with_reducible repeat (first | refine blk_drewN ?_ _ | refine blk_drew ?_ | refine blk_alloc ?_ _)); exact BK406.out⟩, ⟨by (with_reducible repeat (first | refine blk_drewN ?_ _ | refine blk_drew ?_ | refine blk_alloc ?_ _)); refine blk_far ?_ NB407_421.out _; (with_reducible repeat (first | refine blk_drewN ?_ _ | refine blk_drew ?_ | refine blk_alloc ?_ _)); exact BK407.out⟩, ⟨by (with_reducible repeat (first | refine blk_drewN ?_ _ | refine blk_drew ?_ | refine blk_alloc ?_ _)); refine blk_far ?_ NB408_421.out _; (with_reducible repeat (first | refine blk_drewN ?_ _ | refine blk_drew ?_ | refine blk_alloc ?_ _)); exact BK408.out⟩, ⟨by (with_reducible repeat (first | refine blk_drewN ?_ _ | refine blk_drew ?_ | refine blk_alloc ?_ _)); refine blk_put (cs := #[.int .i64 ji35, .int .i64 x422001_2]) ?_ 1 _ rfl; (with_reducible repeat (first | refine blk_drewN ?_ _ | refine blk_drew ?_ | refine blk_alloc ?_ _)); exact BK421.out⟩, ⟨bl_ HB.out⟩⟩
           ·
            rw [if_neg c32] at H
            exact absurd H (by simp)
          ·
           rw [if_neg c31] at H
           exact absurd H (by simp)
         ·
          rw [if_neg c30] at H
          exact absurd H (by simp)
        ·
         rw [if_neg c29] at H
         have c29b0 : decide (x13_2 < (t412.length : Int)) = false := decide_eq_false c29
         clear c29
         have H' := Aside0.mk H
         clear H
         go_wp2
         go_roundg k2
         case measure => have := HK1.out; have := HK2.out; omega
         case rel => exact ⟨(wrap64 (x12_1 + 1)), (x422000_2), (x422001_2), (by first | rfl | (simp; done) | (simp [*]; done)), H', ⟨by have := HK1.out; have := HK2.out; omega⟩, ⟨by (with_reducible repeat (first | apply Kd.R_alloc | apply Kd.R_drewN | apply Kd.R_drew)); exact HO_7.out⟩, ⟨by (with_reducible repeat (first | apply Kd.R_alloc | apply Kd.R_drewN | apply Kd.R_drew)); exact HO_8.out⟩, ⟨bk_ BK405.out⟩, ⟨bk_ BK406.out⟩, ⟨bk_ BK407.out⟩, ⟨bk_ BK408.out⟩, ⟨bk_ BK421.out⟩, ⟨bl_ HB.out⟩⟩
     ·
      rw [if_neg c28] at H
      have c28b0 : decide (x12_1 < (t409.length : Int)) = false := decide_eq_false c28
      clear c28
      simp only [Option.some.injEq, Prod.mk.injEq] at H
      obtain ⟨rfl, rfl⟩ := H
      have hnb45 := NB421_405.out
      have hnc45 := NB405_421.out
      have hnb46 := NB421_406.out
      have hnc46 := NB406_421.out
      have hnb47 := NB421_407.out
      have hnc47 := NB407_421.out
      have hnb48 := NB421_408.out
      have hnc48 := NB408_421.out
      have hcz49_0 : wr.cell? ⟨gb421, 0, none⟩ = some (.int .i64 x422000_1) := (blk_cell BK421.out 0).trans rfl
      have hcz49_1 : wr.cell? ⟨gb421, 1, none⟩ = some (.int .i64 x422001_1) := (blk_cell BK421.out 1).trans rfl
      have hfz49_0 := blk_frozen BK421.out 0
      have hfz49_1 := blk_frozen BK421.out 1
      have hnb50 := NB408_405.out
      have hnc50 := NB405_408.out
      have hnb51 := NB408_406.out
      have hnc51 := NB406_408.out
      have hnb52 := NB408_407.out
      have hnc52 := NB407_408.out
      have hcz53_0 : wr.cell? ⟨gb408, 0, none⟩ = some (.int .i64 0) := (blk_cell BK408.out 0).trans rfl
      have hcz53_1 : wr.cell? ⟨gb408, 1, none⟩ = some (.int .i64 0) := (blk_cell BK408.out 1).trans rfl
      have hfz53_0 := blk_frozen BK408.out 0
      have hfz53_1 := blk_frozen BK408.out 1
      go_wp2
      refine bodyPost_ret (results_cell_row rfl _ _ gb408 27 #[.int .i64 x422000_1, .int .i64 x422001_1] (0, 0) _ rfl (by (with_reducible repeat (first | refine blk_drewN ?_ _ | refine blk_drew ?_ | refine blk_alloc ?_ _)); refine blk_put (cs := #[.int .i64 x422000_1, .int .i64 0]) ?_ 1 _ rfl; (with_reducible repeat (first | refine blk_drewN ?_ _ | refine blk_drew ?_ | refine blk_alloc ?_ _)); refine blk_put (cs := #[.int .i64 0, .int .i64 0]) ?_ 0 _ rfl; (with_reducible repeat (first | refine blk_drewN ?_ _ | refine blk_drew ?_ | refine blk_alloc ?_ _)); exact BK408.out) Try.underlying27 rfl (by kernel_rfl)) rfl ?_
      exact ⟨by first | rfl | (simp [errW_none, errW_some] <;> rfl) | (simp [*, errW_none, errW_some] <;> rfl), bl_ HB.out⟩
  ·
   rw [if_neg c7] at H
   exact absurd H (by simp)
 ·
  rw [if_neg c6] at H
  exact absurd H (by simp)
end Go.Proofs.Yteodlmgmmpkpoaa.PS
end
section
namespace Go.Proofs.Yteodlmgmmpkpoaa.PS
open Go.RowKit Go.Proofs.YteodlmgmmpkpoaaW.PrintWords Go.Proofs.YteodlmgmmpkpoaaW.PrintLast Go.Proofs.YteodlmgmmpkpoaaW.PrintMore
set_option linter.unusedVariables false
theorem mn_min (a b : Int) : mn a b = min a b := by unfold mn; split <;> omega
theorem mx_max (a b : Int) : mx a b = max a b := by unfold mx; split <;> omega
theorem boundP_loop {X Y : List Int} {V : List (List Int)} (ht : tableB X Y V = true) (xs ys : List Int) (hx : ∀ i, i < xs.length → onB X (gI xs i) (gI xs i) = true) (hy : ∀ j, j < ys.length → onB Y (gI ys j) (gI ys j) = true)
    (hxl : xs.length ≤ 14) (hyl : ys.length ≤ 14) : ∀ k : Nat,
    (∀ (i : Nat) (lo hi : Int), i ≤ xs.length → 20 * (xs.length - i) < k → swashplateref01_boundP.l0 k xs ys i X Y V lo hi = some (foldLo (gridL (xs.drop i) ys (ptRef X Y V)) lo, foldHi (gridL (xs.drop i) ys (ptRef X Y V)) hi)) ∧
    (∀ (i j : Nat) (lo hi : Int), i < xs.length → j ≤ ys.length → 20 * (xs.length - (i + 1)) + (ys.length - j) + 1 < k → swashplateref01_boundP.l1 k xs ys i j X Y V lo hi =
      some (foldLo ((ys.drop j).map (ptRef X Y V (gI xs i)) ++ gridL (xs.drop (i + 1)) ys (ptRef X Y V)) lo, foldHi ((ys.drop j).map (ptRef X Y V (gI xs i)) ++ gridL (xs.drop (i + 1)) ys (ptRef X Y V)) hi))
  | 0 => ⟨fun _ _ _ _ h => absurd h (Nat.not_lt_zero _), fun _ _ _ _ _ _ h => absurd h (Nat.not_lt_zero _)⟩
  | k + 1 => by
    obtain ⟨ih0, ih1⟩ := boundP_loop ht xs ys hx hy hxl hyl k
    refine ⟨fun i lo hi hi' hk => ?_, fun i j lo hi hi' hj hk => ?_⟩
    · simp only [swashplateref01_boundP.l0]
      by_cases hlt : i < xs.length
      · rw [if_pos (by omega)]
        have := ih1 i 0 lo hi hlt (Nat.zero_le _) (by omega)
        rw [show ((0 : Nat) : Int) = 0 from rfl, List.drop_zero] at this
        rw [this, drop_step xs i hlt]
        rfl
      · rw [if_neg (by omega), List.drop_of_length_le (by omega)]
        rfl
    · simp only [swashplateref01_boundP.l1]
      by_cases hlt : j < ys.length
      · rw [if_pos (by omega), if_pos (by omega), if_pos (by omega), if_pos (by omega), rd_nat, rd_nat, value_total ht (hx i hi') (hy j hlt), Option.bind_some]
        dsimp only
        have hg := good_ref ht (hx i hi') (hy j hlt)
        rw [good_rfl hg, Option.bind_some, good_rce hg, Option.bind_some, step64 j (by omega), drop_step ys j hlt, List.map_cons, List.cons_append, mn_min, mx_max]
        exact ih1 i (j + 1) _ _ hi' (by omega) (by omega)
      · rw [if_neg (by omega), List.drop_of_length_le (by omega), List.map_nil, List.nil_append, step64 i (by omega)]
        exact ih0 (i + 1) lo hi (by omega) (by omega)
theorem boundP_total {X Y : List Int} {V : List (List Int)} {a0 a1 b0 b1 : Int} (h : Box2 X Y V a0 a1 b0 b1) : swashplateref01_boundP.f 1000 X Y V a0 a1 b0 b1 =
    some (foldLo (ptsR X Y V a0 a1 b0 b1) (flP (headP (ptsR X Y V a0 a1 b0 b1))), foldHi (ptsR X Y V a0 a1 b0 b1) (ceP (headP (ptsR X Y V a0 a1 b0 b1)))) := by
  unfold swashplateref01_boundP.f
  have t := tb_of h.tab
  have p0 := stops_pos X a0 a1
  have p1 := stops_pos Y b0 b1
  have g0 : rd (stopsL X a0 a1) 0 = a0 := rfl
  have g1 : rd (stopsL Y b0 b1) 0 = b0 := rfl
  have ex : ∀ i, i < (stopsL X a0 a1).length → onB X (gI (stopsL X a0 a1) i) (gI (stopsL X a0 a1) i) = true := fun i hi => (h.stx (gI_mem _ _ hi)).1
  have ey : ∀ j, j < (stopsL Y b0 b1).length → onB Y (gI (stopsL Y b0 b1) j) (gI (stopsL Y b0 b1) j) = true := fun j hj => (h.sty (gI_mem _ _ hj)).1
  have ex0 : onB X a0 a0 = true := ex 0 p0
  have ey0 : onB Y b0 b0 = true := ey 0 p1
  have hg := good_ref h.tab ex0 ey0
  rw [rcorners_total X t.ax.most a0 a1 1000 (by omega), Option.bind_some, rcorners_total Y t.ay.most b0 b1 1000 (by omega), Option.bind_some, if_pos (by omega), if_pos (by omega), g0, g1, value_total h.tab ex0 ey0, Option.bind_some]
  dsimp only
  rw [good_rfl hg, Option.bind_some, good_rce hg, Option.bind_some]
  have hl := (boundP_loop h.tab (stopsL X a0 a1) (stopsL Y b0 b1) ex ey (stops_len t.ax.most a0 a1) (stops_len t.ay.most b0 b1) 1000).1 0 (flP (ptRef X Y V a0 b0)) (ceP (ptRef X Y V a0 b0)) (Nat.zero_le _) (by have := stops_len t.ax.most a0 a1; omega)
  rw [List.drop_zero, show ((0 : Nat) : Int) = 0 from rfl] at hl
  obtain ⟨s, hs⟩ := grid_cons X Y a0 a1 b0 b1 (ptRef X Y V)
  rw [hl]
  unfold ptsR
  rw [show headP (gridL (stopsL X a0 a1) (stopsL Y b0 b1) (ptRef X Y V)) = ptRef X Y V a0 b0 by rw [hs]; rfl]
theorem swashplateref01_bound.calls (A0_0 : Option Addr) (c0_0 : Nat) (l0_0 : List Int) (A0_1 : Option Addr) (c0_1 : Nat) (l0_1 : List Int) (A0_2 : Option Addr) (c0_2 : Nat) (l0_2 : List (List Int)) (a1_0 : Int) (a1_1 : Int) (a2_0 : Int) (a2_1 : Int) (r1 : Int) (r2 : Int) (w : World) (hr0_0 : Kd.C (Kd.int .i64) w A0_0 l0_0.length l0_0) (hc0_0 : l0_0.length ≤ c0_0) (hr0_1 : Kd.C (Kd.int .i64) w A0_1 l0_1.length l0_1) (hc0_1 : l0_1.length ≤ c0_1) (hr0_2 : Kd.C (Kd.slice 3 (Kd.int .i64)) w A0_2 l0_2.length l0_2) (hc0_2 : l0_2.length ≤ c0_2) (h : swashplateref01_bound.f l0_0 l0_1 l0_2 a1_0 a1_1 a2_0 a2_1 = some (r1, r2)) :
    Calls Try.prog 92 #[.agg #[.slice A0_0 l0_0.length c0_0, .slice A0_1 l0_1.length c0_1, .slice A0_2 l0_2.length c0_2], .agg #[.int .i64 a1_0, .int .i64 a1_1], .agg #[.int .i64 a2_0, .int .i64 a2_1]] w fun e w' => e = .returned (.agg #[.int .i64 r1, .int .i64 r2]) ∧ Below w.heap.size w w' := by
  unfold swashplateref01_bound.f at h
  by_cases hp : pointsB l0_0 l0_1 l0_2 a1_0 a1_1 a2_0 a2_1 = true
  · rw [if_pos hp] at h
    exact swashplateref01_boundP.calls 1000 A0_0 c0_0 l0_0 A0_1 c0_1 l0_1 A0_2 c0_2 l0_2 a1_0 a1_1 a2_0 a2_1 r1 r2 w hr0_0 hc0_0 hr0_1 hc0_1 hr0_2 hc0_2 ((boundP_total (box2_of hp)).trans h)
  · rw [if_neg hp] at h
    cases h
end Go.Proofs.Yteodlmgmmpkpoaa.PS
end
section
namespace Go.Proofs.Yteodlmgmmpkpoaa.PS
open Go.RowKit Go.Proofs.YteodlmgmmpkpoaaW.PrintWords Go.Proofs.YteodlmgmmpkpoaaW.PrintLast Go.Proofs.YteodlmgmmpkpoaaW.PrintMore
attribute [local go_sem] max2_int min2_int max_two min_two max_three min_three max_four min_four   -- for this text's walks alone
set_option linter.unusedVariables false
set_option linter.unusedSimpArgs false
def swashplateref01_Greatest.l0 : Nat → Int → Int → List Int → List Int → List (List Int) → Int → Int → Option (Int × Int)
 | 0, _, _, _, _, _, _, _ => none
 | k + 1, x2, x9, x840000, x840001, x840002, x841000, x841001 => if 0 < (x840000.length : Int) then (if x9 ≥ (rd x840000 0) then ((swashplateref01_bound.f x840000 x840001 x840002 x9 x9 x841000 x841001).bind fun bt846 => (if bt846.2 ≤ x2 then (some (x9, 0)) else (swashplateref01_Greatest.l0 k x2 (wrap64 (x9 - 1)) x840000 x840001 x840002 x841000 x841001))) else (some (0, 3))) else (none)
def swashplateref01_Greatest.f (k : Nat) (l0_0 : List Int) (l0_1 : List Int) (l0_2 : List (List Int)) (a1_0 : Int) (a1_1 : Int) (a2 : Int) : Option (Int × Int) := (swashplateref01_CheckTable.f k l0_0 l0_1 l0_2).bind fun t841 => (if t841 = 0 then ((swashplateref01_Valid.f a1_0 a1_1).bind fun t842 => (if t842 = true then ((swashplateref01_Between.f l0_1 a1_0 a1_1).bind fun t843 => (if t843 = true then (if 0 ≤ (wrap64 ((l0_0.length : Int) - 1)) then (if (wrap64 ((l0_0.length : Int) - 1)) < (l0_0.length : Int) then (swashplateref01_Greatest.l0 k a2 (rd l0_0 (wrap64 ((l0_0.length : Int) - 1))) l0_0 l0_1 l0_2 a1_0 a1_1) else (none)) else (none)) else (some (0, 1)))) else (some (0, 10)))) else (some (0, t841)))
theorem fld27_1 (a b : Int) (w : World) : (Instr.field 27 (.agg #[.int .i64 a, .int .i64 b]) 1).run Try.prog w = .ok (.int .i64 b) w := by kernel_rfl
attribute [local go_sem] fld27_1
set_option maxHeartbeats 8000000 in
set_option maxRecDepth 100000 in
theorem swashplateref01_Greatest.calls (k : Nat) (A0_0 : Option Addr) (c0_0 : Nat) (l0_0 : List Int) (A0_1 : Option Addr) (c0_1 : Nat) (l0_1 : List Int) (A0_2 : Option Addr) (c0_2 : Nat) (l0_2 : List (List Int)) (a1_0 : Int) (a1_1 : Int) (a2 : Int) (r1 : Int) (r2 : Int) (w : World) (hr0_0 : Kd.C (Kd.int .i64) w A0_0 l0_0.length l0_0) (hc0_0 : l0_0.length ≤ c0_0) (hr0_1 : Kd.C (Kd.int .i64) w A0_1 l0_1.length l0_1) (hc0_1 : l0_1.length ≤ c0_1) (hr0_2 : Kd.C (Kd.slice 3 (Kd.int .i64)) w A0_2 l0_2.length l0_2) (hc0_2 : l0_2.length ≤ c0_2) (h : swashplateref01_Greatest.f k l0_0 l0_1 l0_2 a1_0 a1_1 a2 = some (r1, r2)) :
  Calls Try.prog 25 #[.agg #[.slice A0_0 l0_0.length c0_0, .slice A0_1 l0_1.length c0_1, .slice A0_2 l0_2.length c0_2], .agg #[.int .i64 a1_0, .int .i64 a1_1], .int .i64 a2] w fun e w' => e = .returned (.tuple #[.int .i64 r1, .int .i64 r2]) ∧ Below w.heap.size w w' := by
 have hu25 := Try.underlying25
 have hu27 := Try.underlying27
 have HR0_0 := Aside0.mk hr0_0
 have HC0_0 := Aside0.mk hc0_0
 clear hr0_0 hc0_0
 have HR0_1 := Aside0.mk hr0_1
 have HC0_1 := Aside0.mk hc0_1
 clear hr0_1 hc0_1
 have HR0_2 := Aside0.mk hr0_2
 have HC0_2 := Aside0.mk hc0_2
 clear hr0_2 hc0_2
 have HB := Aside0.mk (Below.refl w.heap.size w)
 have H : ((swashplateref01_CheckTable.f k l0_0 l0_1 l0_2).bind fun t841 => (if t841 = 0 then ((swashplateref01_Valid.f a1_0 a1_1).bind fun t842 => (if t842 = true then ((swashplateref01_Between.f l0_1 a1_0 a1_1).bind fun t843 => (if t843 = true then (if 0 ≤ (wrap64 ((l0_0.length : Int) - 1)) then (if (wrap64 ((l0_0.length : Int) - 1)) < (l0_0.length : Int) then (swashplateref01_Greatest.l0 k a2 (rd l0_0 (wrap64 ((l0_0.length : Int) - 1))) l0_0 l0_1 l0_2 a1_0 a1_1) else (none)) else (none)) else (some (0, 1)))) else (some (0, 10)))) else (some (0, t841)))) = some (r1, r2) := h
 clear h
 replace H := Option.bind_eq_some_iff.mp H
 obtain ⟨t841, A40, H⟩ := H
 replace H : (if t841 = 0 then ((swashplateref01_Valid.f a1_0 a1_1).bind fun t842 => (if t842 = true then ((swashplateref01_Between.f l0_1 a1_0 a1_1).bind fun t843 => (if t843 = true then (if 0 ≤ (wrap64 ((l0_0.length : Int) - 1)) then (if (wrap64 ((l0_0.length : Int) - 1)) < (l0_0.length : Int) then (swashplateref01_Greatest.l0 k a2 (rd l0_0 (wrap64 ((l0_0.length : Int) - 1))) l0_0 l0_1 l0_2 a1_0 a1_1) else (none)) else (none)) else (some (0, 1)))) else (some (0, 10)))) else (some (0, t841))) = some (r1, r2) := H
 have A4 := Aside0.mk A40
 clear A40
 by_cases c5 : t841 = 0
 ·
  rw [if_pos c5] at H
  have c5b0 : (t841 == 0) = true := beq_iff_eq.mpr c5
  have c5b1 : (t841 != 0) = false := bne_eq_false_iff_eq.mpr c5
  clear c5
  replace H := Option.bind_eq_some_iff.mp H
  obtain ⟨t842, A60, H⟩ := H
  replace H : (if t842 = true then ((swashplateref01_Between.f l0_1 a1_0 a1_1).bind fun t843 => (if t843 = true then (if 0 ≤ (wrap64 ((l0_0.length : Int) - 1)) then (if (wrap64 ((l0_0.length : Int) - 1)) < (l0_0.length : Int) then (swashplateref01_Greatest.l0 k a2 (rd l0_0 (wrap64 ((l0_0.length : Int) - 1))) l0_0 l0_1 l0_2 a1_0 a1_1) else (none)) else (none)) else (some (0, 1)))) else (some (0, 10))) = some (r1, r2) := H
  have A6 := Aside0.mk A60
  clear A60
  by_cases c7 : t842 = true
  ·
   subst c7
   have H1 : ((swashplateref01_Between.f l0_1 a1_0 a1_1).bind fun t843 => (if t843 = true then (if 0 ≤ (wrap64 ((l0_0.length : Int) - 1)) then (if (wrap64 ((l0_0.length : Int) - 1)) < (l0_0.length : Int) then (swashplateref01_Greatest.l0 k a2 (rd l0_0 (wrap64 ((l0_0.length : Int) - 1))) l0_0 l0_1 l0_2 a1_0 a1_1) else (none)) else (none)) else (some (0, 1)))) = some (r1, r2) := by rw [if_pos rfl] at H; exact H
   clear H
   have H := H1
   clear H1
   replace H := Option.bind_eq_some_iff.mp H
   obtain ⟨t843, A80, H⟩ := H
   replace H : (if t843 = true then (if 0 ≤ (wrap64 ((l0_0.length : Int) - 1)) then (if (wrap64 ((l0_0.length : Int) - 1)) < (l0_0.length : Int) then (swashplateref01_Greatest.l0 k a2 (rd l0_0 (wrap64 ((l0_0.length : Int) - 1))) l0_0 l0_1 l0_2 a1_0 a1_1) else (none)) else (none)) else (some (0, 1))) = some (r1, r2) := H
   have A8 := Aside0.mk A80
   clear A80
   by_cases c9 : t843 = true
   ·
    subst c9
    have H1 : (if 0 ≤ (wrap64 ((l0_0.length : Int) - 1)) then (if (wrap64 ((l0_0.length : Int) - 1)) < (l0_0.length : Int) then (swashplateref01_Greatest.l0 k a2 (rd l0_0 (wrap64 ((l0_0.length : Int) - 1))) l0_0 l0_1 l0_2 a1_0 a1_1) else (none)) else (none)) = some (r1, r2) := by rw [if_pos rfl] at H; exact H
    clear H
    have H := H1
    clear H1
    obtain ⟨ji10, hji10⟩ : ∃ j_ : Int, (wrap64 ((l0_0.length : Int) - 1)) = j_ := ⟨_, rfl⟩
    replace H : (if 0 ≤ (ji10) then (if (ji10) < (l0_0.length : Int) then (swashplateref01_Greatest.l0 k a2 (rd l0_0 (ji10)) l0_0 l0_1 l0_2 a1_0 a1_1) else (none)) else (none)) = some (r1, r2) := by first | (rw [hji10] at H; exact H) | (simp only [hji10] at H ⊢; exact H)
    (try rw [hji10] at A4)
    (try rw [hji10] at A6)
    (try rw [hji10] at A8)
    have hji10w : (IntKind.i64.wrap ((l0_0.length : Int) - 1)) = ji10 := (i64_w _).trans hji10
    by_cases c11 : 0 ≤ (ji10)
    ·
     rw [if_pos c11] at H
     have c11b0 : decide (0 ≤ (ji10)) = true := decide_eq_true c11
     clear c11
     by_cases c12 : (ji10) < (l0_0.length : Int)
     ·
      rw [if_pos c12] at H
      have c12b0 : decide ((ji10) < (l0_0.length : Int)) = true := decide_eq_true c12
      clear c12
      have H' := Aside0.mk H
      clear H
      go_enter Try.func25, Try.ntmps25
      go_wp2_with (first | ((with_reducible refine gate_dst (N := 3) rfl ?_); refine box_event ?hg (N := 3) ?hd (cs := #[.slice A0_0 l0_0.length c0_0, .slice A0_1 l0_1.length c0_1, .slice A0_2 l0_2.length c0_2]) (t := 25) ?hr ?_; (case hd => rfl); (case hg => rfl); (case hr => first | (go_simp; done) | (go_simp; rfl)); intro gb839 hg w13 hbox hb; have n0_ := Aside0.mk (below_step (bl_ HB.out) hb); have n1_ := Aside0.mk (hbox); have n2_ := Aside0.mk (szl_ hg HB.out); have n3_ := Aside0.mk (szl_ hg HB.out); clear HB; have HB := n0_; have BK839 := n1_; have GW839 := n2_; have GE839 := n3_; clear n0_ n1_ n2_ n3_ hb hbox hg) | ((with_reducible refine gate_dst (N := 4) rfl ?_); refine box_event ?hg (N := 4) ?hd (cs := #[.int .i64 a1_0, .int .i64 a1_1]) (t := 27) ?hr ?_; (case hd => rfl); (case hg => rfl); (case hr => first | (go_simp; done) | (go_simp; rfl)); intro gb840 hg w14 hbox hb; have n0_ := Aside0.mk (blk_below (bk_ BK839.out) hb); have n1_ := Aside0.mk (below_step (bl_ HB.out) hb); have n2_ := Aside0.mk (hbox); have n3_ := Aside0.mk (szl_ hg HB.out); have n4_ := Aside0.mk (szl_ hg HB.out); have n5_ := Aside0.mk (nel_ hg BK839.out); have n6_ := Aside0.mk (ner_ hg BK839.out); clear BK839 HB; have BK839 := n0_; have HB := n1_; have BK840 := n2_; have GW840 := n3_; have GE840 := n4_; have NB839_840 := n5_; have NB840_839 := n6_; clear n0_ n1_ n2_ n3_ n4_ n5_ n6_ hb hbox hg; have hnb15 := NB839_840.out; have hnc15 := NB840_839.out; have hcz16_0 : w14.cell? ⟨gb839, 0, none⟩ = some (.slice A0_0 l0_0.length c0_0) := (blk_cell BK839.out 0).trans rfl; have hcz16_1 : w14.cell? ⟨gb839, 1, none⟩ = some (.slice A0_1 l0_1.length c0_1) := (blk_cell BK839.out 1).trans rfl; have hcz16_2 : w14.cell? ⟨gb839, 2, none⟩ = some (.slice A0_2 l0_2.length c0_2) := (blk_cell BK839.out 2).trans rfl; have hfz16_0 := blk_frozen BK839.out 0; have hfz16_1 := blk_frozen BK839.out 1; have hfz16_2 := blk_frozen BK839.out 2) | ((with_reducible refine gate_callee (f := 21) rfl ?_); refine goesL_ (some 11) rfl rfl Try.func21 (by kernel_rfl) rfl #[.agg #[.slice A0_0 l0_0.length c0_0, .slice A0_1 l0_1.length c0_1, .slice A0_2 l0_2.length c0_2]] rfl (by (try simp only [List.map_toArray, List.map_cons, List.map_nil]); first | done | rfl | (simp only [List.length_drop, List.length_take]; rfl)) ?_; (with_reducible refine (swashplateref01_CheckTable.calls k _ _ l0_0 _ _ l0_1 _ _ l0_2 t841 _ ?side1 ?side2 ?side3 ?side4 ?side5 ?side6 A4.out).mono ?_); (case side1 => exact cr_ (Kd.C_below HR0_0.out HB.out)); (case side2 => exact HC0_0.out); (case side3 => exact cr_ (Kd.C_below HR0_1.out HB.out)); (case side4 => exact HC0_1.out); (case side5 => exact cr_ (Kd.C_below HR0_2.out HB.out)); (case side6 => exact HC0_2.out); rintro e w17 ⟨rfl, hb⟩; refine ⟨_, rfl, ?_⟩; have n0_ := Aside0.mk (blk_below (bk_ BK839.out) hb); have n1_ := Aside0.mk (blk_below (bk_ BK840.out) hb); have n2_ := Aside0.mk (below_step (bl_ HB.out) hb); clear BK839 BK840 HB; have BK839 := n0_; have BK840 := n1_; have HB := n2_; clear n0_ n1_ n2_; (try clear hb); (try clear hb2); (try clear hk); (try clear hi); have hcz18_0 : w17.cell? ⟨gb840, 0, none⟩ = some (.int .i64 a1_0) := (blk_cell BK840.out 0).trans rfl; have hcz18_1 : w17.cell? ⟨gb840, 1, none⟩ = some (.int .i64 a1_1) := (blk_cell BK840.out 1).trans rfl; have hfz18_0 := blk_frozen BK840.out 0; have hfz18_1 := blk_frozen BK840.out 1) | ((with_reducible refine gate_callee (f := 40) rfl ?_); refine goesL_ (some 16) rfl rfl Try.func40 (by kernel_rfl) rfl #[.agg #[.int .i64 a1_0, .int .i64 a1_1]] rfl (by (try simp only [List.map_toArray, List.map_cons, List.map_nil]); first | done | rfl | (simp only [List.length_drop, List.length_take]; rfl)) ?_; (with_reducible refine (swashplateref01_Valid.calls a1_0 a1_1 true _ A6.out).mono ?_); rintro e w19 ⟨rfl, hb⟩; refine ⟨_, rfl, ?_⟩; have n0_ := Aside0.mk (blk_below (bk_ BK839.out) hb); have n1_ := Aside0.mk (blk_below (bk_ BK840.out) hb); have n2_ := Aside0.mk (below_step (bl_ HB.out) hb); clear BK839 BK840 HB; have BK839 := n0_; have BK840 := n1_; have HB := n2_; clear n0_ n1_ n2_; (try clear hb); (try clear hb2); (try clear hk); (try clear hi); have hcz20_0 : w19.cell? ⟨gb839, 0, none⟩ = some (.slice A0_0 l0_0.length c0_0) := (blk_cell BK839.out 0).trans rfl; have hcz20_1 : w19.cell? ⟨gb839, 1, none⟩ = some (.slice A0_1 l0_1.length c0_1) := (blk_cell BK839.out 1).trans rfl; have hcz20_2 : w19.cell? ⟨gb839, 2, none⟩ = some (.slice A0_2 l0_2.length c0_2) := (blk_cell BK839.out 2).trans rfl; have hfz20_0 := blk_frozen BK839.out 0; have hfz20_1 := blk_frozen BK839.out 1; have hfz20_2 := blk_frozen BK839.out 2; have hcz21_0 : w19.cell? ⟨gb840, 0, none⟩ = some (.int .i64 a1_0) := (blk_cell BK840.out 0).trans rfl; have hcz21_1 : w19.cell? ⟨gb840, 1, none⟩ = some (.int .i64 a1_1) := (blk_cell BK840.out 1).trans rfl; have hfz21_0 := blk_frozen BK840.out 0; have hfz21_1 := blk_frozen BK840.out 1) | ((with_reducible refine gate_callee (f := 91) rfl ?_); refine goesL_ (some 21) rfl rfl Try.func91 (by kernel_rfl) rfl #[.slice A0_1 l0_1.length c0_1, .agg #[.int .i64 a1_0, .int .i64 a1_1]] rfl (by (try simp only [List.map_toArray, List.map_cons, List.map_nil]); first | done | rfl | (simp only [List.length_drop, List.length_take]; rfl)) ?_; (with_reducible refine (swashplateref01_Between.calls _ _ l0_1 a1_0 a1_1 true _ ?side1 ?side2 A8.out).mono ?_); (case side1 => exact cr_ (Kd.C_below HR0_1.out HB.out)); (case side2 => exact HC0_1.out); rintro e w22 ⟨rfl, hb⟩; refine ⟨_, rfl, ?_⟩; have n0_ := Aside0.mk (blk_below (bk_ BK839.out) hb); have n1_ := Aside0.mk (blk_below (bk_ BK840.out) hb); have n2_ := Aside0.mk (below_step (bl_ HB.out) hb); clear BK839 BK840 HB; have BK839 := n0_; have BK840 := n1_; have HB := n2_; clear n0_ n1_ n2_; (try clear hb); (try clear hb2); (try clear hk); (try clear hi); have hcz23_0 : w22.cell? ⟨gb839, 0, none⟩ = some (.slice A0_0 l0_0.length c0_0) := (blk_cell BK839.out 0).trans rfl; have hcz23_1 : w22.cell? ⟨gb839, 1, none⟩ = some (.slice A0_1 l0_1.length c0_1) := (blk_cell BK839.out 1).trans rfl; have hcz23_2 : w22.cell? ⟨gb839, 2, none⟩ = some (.slice A0_2 l0_2.length c0_2) := (blk_cell BK839.out 2).trans rfl; have hfz23_0 := blk_frozen BK839.out 0; have hfz23_1 := blk_frozen BK839.out 1; have hfz23_2 := blk_frozen BK839.out 2; have p844 : 0 ≤ ((ji10) : Int) := of_decide_eq_true (by first | (with_reducible assumption) | assumption); have q844 : (ji10) < (l0_0.length : Int) := of_decide_eq_true (by first | (with_reducible assumption) | assumption); obtain ⟨ad844, e844, hx844_0⟩ := Kd.at_int HR0_0.out (ji10) p844 q844; cases e844; replace hx844_0 := (HB.out.cell (World.block_lt_of_cell? w _ hx844_0)).trans hx844_0; replace p844 := eq_true p844; replace q844 := eq_true q844))
      go_loopg [9] k (fun kq v9 w' => ∃ (x9_1 : Int), v9 = .int .i64 x9_1 ∧ Aside0 (swashplateref01_Greatest.l0 kq a2 x9_1 l0_0 l0_1 l0_2 a1_0 a1_1 = some (r1, r2)) ∧ Aside0 (kq ≤ k) ∧ Aside0 (w'.heap[gb839]? = some (.cells #[(.slice (some ad844) l0_0.length c0_0), (.slice A0_1 l0_1.length c0_1), (.slice A0_2 l0_2.length c0_2)] 25 (0, 0))) ∧ Aside0 (w'.heap[gb840]? = some (.cells #[.int .i64 a1_0, .int .i64 a1_1] 27 (0, 0))) ∧ Aside0 (Below w.heap.size w w'))
      case atStart => exact ⟨(rd l0_0 (ji10)), (by first | rfl | (simp; done) | (simp only [← hji10] <;> (first | rfl | simp)) | (simp [*]; done)), H', ⟨Nat.le_refl _⟩, ⟨bk_ BK839.out⟩, ⟨bk_ BK840.out⟩, ⟨bl_ HB.out⟩⟩
      case round =>
       clear H'
       try clear c1
       try clear c2
       try clear p2
       try clear c4
       try clear c5
       try clear c5b0
       try clear c5b1
       try clear p6
       try clear c7
       try clear p8
       try clear q8
       try clear hx8
       try clear c9
       try clear c11
       try clear c11b0
       try clear c12
       try clear c12b0
       try clear c15
       try clear c21
       try clear hcz16_0
       try clear hcz16_1
       try clear hcz16_2
       try clear hcz18_0
       try clear hcz18_1
       try clear hcz20_0
       try clear hcz20_1
       try clear hcz20_2
       try clear hcz21_0
       try clear hcz21_1
       try clear hcz23_0
       try clear hcz23_1
       try clear hcz23_2
       try clear hfz16_0
       try clear hfz16_1
       try clear hfz16_2
       try clear hfz18_0
       try clear hfz18_1
       try clear hfz20_0
       try clear hfz20_1
       try clear hfz20_2
       try clear hfz21_0
       try clear hfz21_1
       try clear hfz23_0
       try clear hfz23_1
       try clear hfz23_2
       try clear hx844_0
       try clear p844
       try clear q844
       obtain ⟨x9_1, rfl, HA, HK1, BK839, BK840, HB⟩ := hrel
       cases gk with
       | zero => exact absurd HA.out (by simp [swashplateref01_Greatest.l0])
       | succ k1 =>
        have H := HA.out
        clear HA
        simp only [swashplateref01_Greatest.l0] at H
        by_cases c24 : 0 < (l0_0.length : Int)
        ·
         rw [if_pos c24] at H
         have c24b0 : decide (0 < (l0_0.length : Int)) = true := decide_eq_true c24
         have c24b1 : decide (0 < l0_0.length) = true := decide_eq_true (by omega)
         clear c24
         by_cases c25 : x9_1 ≥ (rd l0_0 0)
         ·
          rw [if_pos c25] at H
          have c25b0 : decide ((rd l0_0 0) ≤ x9_1) = true := decide_eq_true c25
          clear c25
          replace H := Option.bind_eq_some_iff.mp H
          obtain ⟨⟨t846, t847⟩, A260, H⟩ := H
          replace H : (if t847 ≤ a2 then (some (x9_1, 0)) else (swashplateref01_Greatest.l0 k1 a2 (wrap64 (x9_1 - 1)) l0_0 l0_1 l0_2 a1_0 a1_1)) = some (r1, r2) := H
          have A26 := Aside0.mk A260
          clear A260
          by_cases c27 : t847 ≤ a2
          ·
           rw [if_pos c27] at H
           have c27b0 : decide (t847 ≤ a2) = true := decide_eq_true c27
           clear c27
           simp only [Option.some.injEq, Prod.mk.injEq] at H
           obtain ⟨rfl, rfl⟩ := H
           have hnb28 := NB839_840.out
           have hnc28 := NB840_839.out
           have hcz29_0 : wr.cell? ⟨gb839, 0, none⟩ = some (.slice (some ad844) l0_0.length c0_0) := (blk_cell BK839.out 0).trans rfl
           have hcz29_1 : wr.cell? ⟨gb839, 1, none⟩ = some (.slice A0_1 l0_1.length c0_1) := (blk_cell BK839.out 1).trans rfl
           have hcz29_2 : wr.cell? ⟨gb839, 2, none⟩ = some (.slice A0_2 l0_2.length c0_2) := (blk_cell BK839.out 2).trans rfl
           have hfz29_0 := blk_frozen BK839.out 0
           have hfz29_1 := blk_frozen BK839.out 1
           have hfz29_2 := blk_frozen BK839.out 2
           have p845 : 0 ≤ (0 : Int) := (by omega)
           have q845 : 0 < (l0_0.length : Int) := of_decide_eq_true (by first | (with_reducible assumption) | assumption)
           obtain ⟨ad845, e845, hx845_0⟩ := Kd.at_int HR0_0.out 0 p845 q845
           obtain rfl : ad844 = ad845 := (by injection e845)
           have qi845 : (0 < l0_0.length) = True := eq_true (by omega)
           (try rw [show ((0 : Int)).toNat = 0 from rfl] at hx845_0)
           (try rw [Addr.add_zero'] at hx845_0)
           replace hx845_0 := (HB.out.cell (World.block_lt_of_cell? w _ hx845_0)).trans hx845_0
           replace p845 := eq_true p845
           replace q845 := eq_true q845
           have hcz30_0 : wr.cell? ⟨gb840, 0, none⟩ = some (.int .i64 a1_0) := (blk_cell BK840.out 0).trans rfl
           have hcz30_1 : wr.cell? ⟨gb840, 1, none⟩ = some (.int .i64 a1_1) := (blk_cell BK840.out 1).trans rfl
           have hfz30_0 := blk_frozen BK840.out 0
           have hfz30_1 := blk_frozen BK840.out 1
           go_wp2_with (first | ((with_reducible refine gate_callee (f := 92) rfl ?_); refine goesL_ (some 44) rfl rfl Try.func92 (by kernel_rfl) rfl #[.agg #[.slice (some ad844) l0_0.length c0_0, .slice A0_1 l0_1.length c0_1, .slice A0_2 l0_2.length c0_2], .agg #[.int .i64 x9_1, .int .i64 x9_1], .agg #[.int .i64 a1_0, .int .i64 a1_1]] rfl (by (try simp only [List.map_toArray, List.map_cons, List.map_nil]); first | done | rfl | (simp only [List.length_drop, List.length_take]; rfl)) ?_; (with_reducible refine (swashplateref01_bound.calls _ _ l0_0 _ _ l0_1 _ _ l0_2 x9_1 x9_1 a1_0 a1_1 t846 t847 _ ?side1 ?side2 ?side3 ?side4 ?side5 ?side6 A26.out).mono ?_); (case side1 => exact cr_ (Kd.C_below HR0_0.out HB.out)); (case side2 => exact HC0_0.out); (case side3 => exact cr_ (Kd.C_below HR0_1.out HB.out)); (case side4 => exact HC0_1.out); (case side5 => exact cr_ (Kd.C_below HR0_2.out HB.out)); (case side6 => exact HC0_2.out); rintro e w31 ⟨rfl, hb⟩; refine ⟨_, rfl, ?_⟩; have n0_ := Aside0.mk (blk_below (bk_ BK839.out) hb); have n1_ := Aside0.mk (blk_below (bk_ BK840.out) hb); have n2_ := Aside0.mk (below_step (bl_ HB.out) hb); clear BK839 BK840 HB; have BK839 := n0_; have BK840 := n1_; have HB := n2_; clear n0_ n1_ n2_; (try clear hb); (try clear hb2); (try clear hk); (try clear hi)))
           go_ret2
           exact ⟨by first | rfl | (simp [errW_none, errW_some] <;> rfl) | (simp only [← hji10]; first | rfl | (simp [errW_none, errW_some] <;> rfl)) | (simp [*, errW_none, errW_some] <;> rfl), bl_ HB.out⟩
          ·
           rw [if_neg c27] at H
           have c27b0 : decide (t847 ≤ a2) = false := decide_eq_false c27
           clear c27
           have H' := Aside0.mk H
           clear H
           have hnb32 := NB839_840.out
           have hnc32 := NB840_839.out
           have hcz33_0 : wr.cell? ⟨gb839, 0, none⟩ = some (.slice (some ad844) l0_0.length c0_0) := (blk_cell BK839.out 0).trans rfl
           have hcz33_1 : wr.cell? ⟨gb839, 1, none⟩ = some (.slice A0_1 l0_1.length c0_1) := (blk_cell BK839.out 1).trans rfl
           have hcz33_2 : wr.cell? ⟨gb839, 2, none⟩ = some (.slice A0_2 l0_2.length c0_2) := (blk_cell BK839.out 2).trans rfl
           have hfz33_0 := blk_frozen BK839.out 0
           have hfz33_1 := blk_frozen BK839.out 1
           have hfz33_2 := blk_frozen BK839.out 2
           have p845 : 0 ≤ (0 : Int) := (by omega)
           have q845 : 0 < (l0_0.length : Int) := of_decide_eq_true (by first | (with_reducible assumption) | assumption)
           obtain ⟨ad845, e845, hx845_0⟩ := Kd.at_int HR0_0.out 0 p845 q845
           obtain rfl : ad844 = ad845 := (by injection e845)
           have qi845 : (0 < l0_0.length) = True := eq_true (by omega)
           (try rw [show ((0 : Int)).toNat = 0 from rfl] at hx845_0)
           (try rw [Addr.add_zero'] at hx845_0)
           replace hx845_0 := (HB.out.cell (World.block_lt_of_cell? w _ hx845_0)).trans hx845_0
           replace p845 := eq_true p845
           replace q845 := eq_true q845
           have hcz34_0 : wr.cell? ⟨gb840, 0, none⟩ = some (.int .i64 a1_0) := (blk_cell BK840.out 0).trans rfl
           have hcz34_1 : wr.cell? ⟨gb840, 1, none⟩ = some (.int .i64 a1_1) := (blk_cell BK840.out 1).trans rfl
           have hfz34_0 := blk_frozen BK840.out 0
           have hfz34_1 := blk_frozen BK840.out 1
           go_wp2_with (first | ((with_reducible refine gate_callee (f := 92) rfl ?_); refine goesL_ (some 44) rfl rfl Try.func92 (by kernel_rfl) rfl #[.agg #[.slice (some ad844) l0_0.length c0_0, .slice A0_1 l0_1.length c0_1, .slice A0_2 l0_2.length c0_2], .agg #[.int .i64 x9_1, .int .i64 x9_1], .agg #[.int .i64 a1_0, .int .i64 a1_1]] rfl (by (try simp only [List.map_toArray, List.map_cons, List.map_nil]); first | done | rfl | (simp only [List.length_drop, List.length_take]; rfl)) ?_; (with_reducible refine (swashplateref01_bound.calls _ _ l0_0 _ _ l0_1 _ _ l0_2 x9_1 x9_1 a1_0 a1_1 t846 t847 _ ?side1 ?side2 ?side3 ?side4 ?side5 ?side6 A26.out).mono ?_); (case side1 => exact cr_ (Kd.C_below HR0_0.out HB.out)); (case side2 => exact HC0_0.out); (case side3 => exact cr_ (Kd.C_below HR0_1.out HB.out)); (case side4 => exact HC0_1.out); (case side5 => exact cr_ (Kd.C_below HR0_2.out HB.out)); (case side6 => exact HC0_2.out); rintro e w35 ⟨rfl, hb⟩; refine ⟨_, rfl, ?_⟩; have n0_ := Aside0.mk (blk_below (bk_ BK839.out) hb); have n1_ := Aside0.mk (blk_below (bk_ BK840.out) hb); have n2_ := Aside0.mk (below_step (bl_ HB.out) hb); clear BK839 BK840 HB; have BK839 := n0_; have BK840 := n1_; have HB := n2_; clear n0_ n1_ n2_; (try clear hb); (try clear hb2); (try clear hk); (try clear hi)))
           go_roundg k1
           case measure => have := HK1.out; omega
           case rel => exact ⟨(wrap64 (x9_1 - 1)), (by first | rfl | (simp; done) | (simp [*]; done)), H', ⟨by have := HK1.out; omega⟩, ⟨bk_ BK839.out⟩, ⟨bk_ BK840.out⟩, ⟨bl_ HB.out⟩⟩
         ·
          rw [if_neg c25] at H
          have c25b0 : decide ((rd l0_0 0) ≤ x9_1) = false := decide_eq_false c25
          clear c25
          simp only [Option.some.injEq, Prod.mk.injEq] at H
          obtain ⟨rfl, rfl⟩ := H
          have hnb36 := NB839_840.out
          have hnc36 := NB840_839.out
          have hcz37_0 : wr.cell? ⟨gb839, 0, none⟩ = some (.slice (some ad844) l0_0.length c0_0) := (blk_cell BK839.out 0).trans rfl
          have hcz37_1 : wr.cell? ⟨gb839, 1, none⟩ = some (.slice A0_1 l0_1.length c0_1) := (blk_cell BK839.out 1).trans rfl
          have hcz37_2 : wr.cell? ⟨gb839, 2, none⟩ = some (.slice A0_2 l0_2.length c0_2) := (blk_cell BK839.out 2).trans rfl
          have hfz37_0 := blk_frozen BK839.out 0
          have hfz37_1 := blk_frozen BK839.out 1
          have hfz37_2 := blk_frozen BK839.out 2
          have p845 : 0 ≤ (0 : Int) := (by omega)
          have q845 : 0 < (l0_0.length : Int) := of_decide_eq_true (by first | (with_reducible assumption) | assumption)
          obtain ⟨ad845, e845, hx845_0⟩ := Kd.at_int HR0_0.out 0 p845 q845
          obtain rfl : ad844 = ad845 := (by injection e845)
          have qi845 : (0 < l0_0.length) = True := eq_true (by omega)
          (try rw [show ((0 : Int)).toNat = 0 from rfl] at hx845_0)
          (try rw [Addr.add_zero'] at hx845_0)
          replace hx845_0 := (HB.out.cell (World.block_lt_of_cell? w _ hx845_0)).trans hx845_0
          replace p845 := eq_true p845
          replace q845 := eq_true q845
          go_wp2
          go_ret2
          exact ⟨by first | rfl | (simp [errW_none, errW_some] <;> rfl) | (simp only [← hji10]; first | rfl | (simp [errW_none, errW_some] <;> rfl)) | (simp [*, errW_none, errW_some] <;> rfl), bl_ HB.out⟩
        ·
         rw [if_neg c24] at H
         exact absurd H (by simp)
     ·
      rw [if_neg c12] at H
      exact absurd H (by simp)
    ·
     rw [if_neg c11] at H
     exact absurd H (by simp)
   ·
    replace c9 := Bool.eq_false_iff.mpr c9
    subst c9
    have H1 : (some (0, 1)) = some (r1, r2) := by rw [if_neg (show ¬ (false = true) by decide)] at H; exact H
    clear H
    have H := H1
    clear H1
    simp only [Option.some.injEq, Prod.mk.injEq] at H
    obtain ⟨rfl, rfl⟩ := H
    go_enter Try.func25, Try.ntmps25
    go_wp2_with (first | ((with_reducible refine gate_dst (N := 3) rfl ?_); refine box_event ?hg (N := 3) ?hd (cs := #[.slice A0_0 l0_0.length c0_0, .slice A0_1 l0_1.length c0_1, .slice A0_2 l0_2.length c0_2]) (t := 25) ?hr ?_; (case hd => rfl); (case hg => rfl); (case hr => first | (go_simp; done) | (go_simp; rfl)); intro gb839 hg w38 hbox hb; have n0_ := Aside0.mk (below_step (bl_ HB.out) hb); have n1_ := Aside0.mk (hbox); have n2_ := Aside0.mk (szl_ hg HB.out); have n3_ := Aside0.mk (szl_ hg HB.out); clear HB; have HB := n0_; have BK839 := n1_; have GW839 := n2_; have GE839 := n3_; clear n0_ n1_ n2_ n3_ hb hbox hg) | ((with_reducible refine gate_dst (N := 4) rfl ?_); refine box_event ?hg (N := 4) ?hd (cs := #[.int .i64 a1_0, .int .i64 a1_1]) (t := 27) ?hr ?_; (case hd => rfl); (case hg => rfl); (case hr => first | (go_simp; done) | (go_simp; rfl)); intro gb840 hg w39 hbox hb; have n0_ := Aside0.mk (blk_below (bk_ BK839.out) hb); have n1_ := Aside0.mk (below_step (bl_ HB.out) hb); have n2_ := Aside0.mk (hbox); have n3_ := Aside0.mk (szl_ hg HB.out); have n4_ := Aside0.mk (szl_ hg HB.out); have n5_ := Aside0.mk (nel_ hg BK839.out); have n6_ := Aside0.mk (ner_ hg BK839.out); clear BK839 HB; have BK839 := n0_; have HB := n1_; have BK840 := n2_; have GW840 := n3_; have GE840 := n4_; have NB839_840 := n5_; have NB840_839 := n6_; clear n0_ n1_ n2_ n3_ n4_ n5_ n6_ hb hbox hg; have hnb40 := NB839_840.out; have hnc40 := NB840_839.out; have hcz41_0 : w39.cell? ⟨gb839, 0, none⟩ = some (.slice A0_0 l0_0.length c0_0) := (blk_cell BK839.out 0).trans rfl; have hcz41_1 : w39.cell? ⟨gb839, 1, none⟩ = some (.slice A0_1 l0_1.length c0_1) := (blk_cell BK839.out 1).trans rfl; have hcz41_2 : w39.cell? ⟨gb839, 2, none⟩ = some (.slice A0_2 l0_2.length c0_2) := (blk_cell BK839.out 2).trans rfl; have hfz41_0 := blk_frozen BK839.out 0; have hfz41_1 := blk_frozen BK839.out 1; have hfz41_2 := blk_frozen BK839.out 2) | ((with_reducible refine gate_callee (f := 21) rfl ?_); refine goesL_ (some 11) rfl rfl Try.func21 (by kernel_rfl) rfl #[.agg #[.slice A0_0 l0_0.length c0_0, .slice A0_1 l0_1.length c0_1, .slice A0_2 l0_2.length c0_2]] rfl (by (try simp only [List.map_toArray, List.map_cons, List.map_nil]); first | done | rfl | (simp only [List.length_drop, List.length_take]; rfl)) ?_; (with_reducible refine (swashplateref01_CheckTable.calls k _ _ l0_0 _ _ l0_1 _ _ l0_2 t841 _ ?side1 ?side2 ?side3 ?side4 ?side5 ?side6 A4.out).mono ?_); (case side1 => exact cr_ (Kd.C_below HR0_0.out HB.out)); (case side2 => exact HC0_0.out); (case side3 => exact cr_ (Kd.C_below HR0_1.out HB.out)); (case side4 => exact HC0_1.out); (case side5 => exact cr_ (Kd.C_below HR0_2.out HB.out)); (case side6 => exact HC0_2.out); rintro e w42 ⟨rfl, hb⟩; refine ⟨_, rfl, ?_⟩; have n0_ := Aside0.mk (blk_below (bk_ BK839.out) hb); have n1_ := Aside0.mk (blk_below (bk_ BK840.out) hb); have n2_ := Aside0.mk (below_step (bl_ HB.out) hb); clear BK839 BK840 HB; have BK839 := n0_; have BK840 := n1_; have HB := n2_; clear n0_ n1_ n2_; (try clear hb); (try clear hb2); (try clear hk); (try clear hi); have hcz43_0 : w42.cell? ⟨gb840, 0, none⟩ = some (.int .i64 a1_0) := (blk_cell BK840.out 0).trans rfl; have hcz43_1 : w42.cell? ⟨gb840, 1, none⟩ = some (.int .i64 a1_1) := (blk_cell BK840.out 1).trans rfl; have hfz43_0 := blk_frozen BK840.out 0; have hfz43_1 := blk_frozen BK840.out 1) | ((with_reducible refine gate_callee (f := 40) rfl ?_); refine goesL_ (some 16) rfl rfl Try.func40 (by kernel_rfl) rfl #[.agg #[.int .i64 a1_0, .int .i64 a1_1]] rfl (by (try simp only [List.map_toArray, List.map_cons, List.map_nil]); first | done | rfl | (simp only [List.length_drop, List.length_take]; rfl)) ?_; (with_reducible refine (swashplateref01_Valid.calls a1_0 a1_1 true _ A6.out).mono ?_); rintro e w44 ⟨rfl, hb⟩; refine ⟨_, rfl, ?_⟩; have n0_ := Aside0.mk (blk_below (bk_ BK839.out) hb); have n1_ := Aside0.mk (blk_below (bk_ BK840.out) hb); have n2_ := Aside0.mk (below_step (bl_ HB.out) hb); clear BK839 BK840 HB; have BK839 := n0_; have BK840 := n1_; have HB := n2_; clear n0_ n1_ n2_; (try clear hb); (try clear hb2); (try clear hk); (try clear hi); have hcz45_0 : w44.cell? ⟨gb839, 0, none⟩ = some (.slice A0_0 l0_0.length c0_0) := (blk_cell BK839.out 0).trans rfl; have hcz45_1 : w44.cell? ⟨gb839, 1, none⟩ = some (.slice A0_1 l0_1.length c0_1) := (blk_cell BK839.out 1).trans rfl; have hcz45_2 : w44.cell? ⟨gb839, 2, none⟩ = some (.slice A0_2 l0_2.length c0_2) := (blk_cell BK839.out 2).trans rfl; have hfz45_0 := blk_frozen BK839.out 0; have hfz45_1 := blk_frozen BK839.out 1; have hfz45_2 := blk_frozen BK839.out 2; have hcz46_0 : w44.cell? ⟨gb840, 0, none⟩ = some (.int .i64 a1_0) := (blk_cell BK840.out 0).trans rfl; have hcz46_1 : w44.cell? ⟨gb840, 1, none⟩ = some (.int .i64 a1_1) := (blk_cell BK840.out 1).trans rfl; have hfz46_0 := blk_frozen BK840.out 0; have hfz46_1 := blk_frozen BK840.out 1) | ((with_reducible refine gate_callee (f := 91) rfl ?_); refine goesL_ (some 21) rfl rfl Try.func91 (by kernel_rfl) rfl #[.slice A0_1 l0_1.length c0_1, .agg #[.int .i64 a1_0, .int .i64 a1_1]] rfl (by (try simp only [List.map_toArray, List.map_cons, List.map_nil]); first | done | rfl | (simp only [List.length_drop, List.length_take]; rfl)) ?_; (with_reducible refine (swashplateref01_Between.calls _ _ l0_1 a1_0 a1_1 false _ ?side1 ?side2 A8.out).mono ?_); (case side1 => exact cr_ (Kd.C_below HR0_1.out HB.out)); (case side2 => exact HC0_1.out); rintro e w47 ⟨rfl, hb⟩; refine ⟨_, rfl, ?_⟩; have n0_ := Aside0.mk (blk_below (bk_ BK839.out) hb); have n1_ := Aside0.mk (blk_below (bk_ BK840.out) hb); have n2_ := Aside0.mk (below_step (bl_ HB.out) hb); clear BK839 BK840 HB; have BK839 := n0_; have BK840 := n1_; have HB := n2_; clear n0_ n1_ n2_; (try clear hb); (try clear hb2); (try clear hk); (try clear hi)))
    go_ret2
    exact ⟨by first | rfl | (simp [errW_none, errW_some] <;> rfl) | (simp [*, errW_none, errW_some] <;> rfl), bl_ HB.out⟩
  ·
   replace c7 := Bool.eq_false_iff.mpr c7
   subst c7
   have H1 : (some (0, 10)) = some (r1, r2) := by rw [if_neg (show ¬ (false = true) by decide)] at H; exact H
   clear H
   have H := H1
   clear H1
   simp only [Option.some.injEq, Prod.mk.injEq] at H
   obtain ⟨rfl, rfl⟩ := H
   go_enter Try.func25, Try.ntmps25
   go_wp2_with (first | ((with_reducible refine gate_dst (N := 3) rfl ?_); refine box_event ?hg (N := 3) ?hd (cs := #[.slice A0_0 l0_0.length c0_0, .slice A0_1 l0_1.length c0_1, .slice A0_2 l0_2.length c0_2]) (t := 25) ?hr ?_; (case hd => rfl); (case hg => rfl); (case hr => first | (go_simp; done) | (go_simp; rfl)); intro gb839 hg w48 hbox hb; have n0_ := Aside0.mk (below_step (bl_ HB.out) hb); have n1_ := Aside0.mk (hbox); have n2_ := Aside0.mk (szl_ hg HB.out); have n3_ := Aside0.mk (szl_ hg HB.out); clear HB; have HB := n0_; have BK839 := n1_; have GW839 := n2_; have GE839 := n3_; clear n0_ n1_ n2_ n3_ hb hbox hg) | ((with_reducible refine gate_dst (N := 4) rfl ?_); refine box_event ?hg (N := 4) ?hd (cs := #[.int .i64 a1_0, .int .i64 a1_1]) (t := 27) ?hr ?_; (case hd => rfl); (case hg => rfl); (case hr => first | (go_simp; done) | (go_simp; rfl)); intro gb840 hg w49 hbox hb; have n0_ := Aside0.mk (blk_below (bk_ BK839.out) hb); have n1_ := Aside0.mk (below_step (bl_ HB.out) hb); have n2_ := Aside0.mk (hbox); have n3_ := Aside0.mk (szl_ hg HB.out); have n4_ := Aside0.mk (szl_ hg HB.out); have n5_ := Aside0.mk (nel_ hg BK839.out); have n6_ := Aside0.mk (ner_ hg BK839.out); clear BK839 HB; have BK839 := n0_; have HB := n1_; have BK840 := n2_; have GW840 := n3_; have GE840 := n4_; have NB839_840 := n5_; have NB840_839 := n6_; clear n0_ n1_ n2_ n3_ n4_ n5_ n6_ hb hbox hg; have hnb50 := NB839_840.out; have hnc50 := NB840_839.out; have hcz51_0 : w49.cell? ⟨gb839, 0, none⟩ = some (.slice A0_0 l0_0.length c0_0) := (blk_cell BK839.out 0).trans rfl; have hcz51_1 : w49.cell? ⟨gb839, 1, none⟩ = some (.slice A0_1 l0_1.length c0_1) := (blk_cell BK839.out 1).trans rfl; have hcz51_2 : w49.cell? ⟨gb839, 2, none⟩ = some (.slice A0_2 l0_2.length c0_2) := (blk_cell BK839.out 2).trans rfl; have hfz51_0 := blk_frozen BK839.out 0; have hfz51_1 := blk_frozen BK839.out 1; have hfz51_2 := blk_frozen BK839.out 2) | ((with_reducible refine gate_callee (f := 21) rfl ?_); refine goesL_ (some 11) rfl rfl Try.func21 (by kernel_rfl) rfl #[.agg #[.slice A0_0 l0_0.length c0_0, .slice A0_1 l0_1.length c0_1, .slice A0_2 l0_2.length c0_2]] rfl (by (try simp only [List.map_toArray, List.map_cons, List.map_nil]); first | done | rfl | (simp only [List.length_drop, List.length_take]; rfl)) ?_; (with_reducible refine (swashplateref01_CheckTable.calls k _ _ l0_0 _ _ l0_1 _ _ l0_2 t841 _ ?side1 ?side2 ?side3 ?side4 ?side5 ?side6 A4.out).mono ?_); (case side1 => exact cr_ (Kd.C_below HR0_0.out HB.out)); (case side2 => exact HC0_0.out); (case side3 => exact cr_ (Kd.C_below HR0_1.out HB.out)); (case side4 => exact HC0_1.out); (case side5 => exact cr_ (Kd.C_below HR0_2.out HB.out)); (case side6 => exact HC0_2.out); rintro e w52 ⟨rfl, hb⟩; refine ⟨_, rfl, ?_⟩; have n0_ := Aside0.mk (blk_below (bk_ BK839.out) hb); have n1_ := Aside0.mk (blk_below (bk_ BK840.out) hb); have n2_ := Aside0.mk (below_step (bl_ HB.out) hb); clear BK839 BK840 HB; have BK839 := n0_; have BK840 := n1_; have HB := n2_; clear n0_ n1_ n2_; (try clear hb); (try clear hb2); (try clear hk); (try clear hi); have hcz53_0 : w52.cell? ⟨gb840, 0, none⟩ = some (.int .i64 a1_0) := (blk_cell BK840.out 0).trans rfl; have hcz53_1 : w52.cell? ⟨gb840, 1, none⟩ = some (.int .i64 a1_1) := (blk_cell BK840.out 1).trans rfl; have hfz53_0 := blk_frozen BK840.out 0; have hfz53_1 := blk_frozen BK840.out 1) | ((with_reducible refine gate_callee (f := 40) rfl ?_); refine goesL_ (some 16) rfl rfl Try.func40 (by kernel_rfl) rfl #[.agg #[.int .i64 a1_0, .int .i64 a1_1]] rfl (by (try simp only [List.map_toArray, List.map_cons, List.map_nil]); first | done | rfl | (simp only [List.length_drop, List.length_take]; rfl)) ?_; (with_reducible refine (swashplateref01_Valid.calls a1_0 a1_1 false _ A6.out).mono ?_); rintro e w54 ⟨rfl, hb⟩; refine ⟨_, rfl, ?_⟩; have n0_ := Aside0.mk (blk_below (bk_ BK839.out) hb); have n1_ := Aside0.mk (blk_below (bk_ BK840.out) hb); have n2_ := Aside0.mk (below_step (bl_ HB.out) hb); clear BK839 BK840 HB; have BK839 := n0_; have BK840 := n1_; have HB := n2_; clear n0_ n1_ n2_; (try clear hb); (try clear hb2); (try clear hk); (try clear hi)))
   go_ret2
   exact ⟨by first | rfl | (simp [errW_none, errW_some] <;> rfl) | (simp [*, errW_none, errW_some] <;> rfl), bl_ HB.out⟩
 ·
  rw [if_neg c5] at H
  have c5b0 : (t841 == 0) = false := beq_eq_false_iff_ne.mpr c5
  have c5b1 : (t841 != 0) = true := bne_iff_ne.mpr c5
  simp only [Option.some.injEq, Prod.mk.injEq] at H
  obtain ⟨rfl, rfl⟩ := H
  go_enter Try.func25, Try.ntmps25
  go_wp2_with (first | ((with_reducible refine gate_dst (N := 3) rfl ?_); refine box_event ?hg (N := 3) ?hd (cs := #[.slice A0_0 l0_0.length c0_0, .slice A0_1 l0_1.length c0_1, .slice A0_2 l0_2.length c0_2]) (t := 25) ?hr ?_; (case hd => rfl); (case hg => rfl); (case hr => first | (go_simp; done) | (go_simp; rfl)); intro gb839 hg w55 hbox hb; have n0_ := Aside0.mk (below_step (bl_ HB.out) hb); have n1_ := Aside0.mk (hbox); have n2_ := Aside0.mk (szl_ hg HB.out); have n3_ := Aside0.mk (szl_ hg HB.out); clear HB; have HB := n0_; have BK839 := n1_; have GW839 := n2_; have GE839 := n3_; clear n0_ n1_ n2_ n3_ hb hbox hg) | ((with_reducible refine gate_dst (N := 4) rfl ?_); refine box_event ?hg (N := 4) ?hd (cs := #[.int .i64 a1_0, .int .i64 a1_1]) (t := 27) ?hr ?_; (case hd => rfl); (case hg => rfl); (case hr => first | (go_simp; done) | (go_simp; rfl)); intro gb840 hg w56 hbox hb; have n0_ := Aside0.mk (blk_below (bk_ BK839.out) hb); have n1_ := Aside0.mk (below_step (bl_ HB.out) hb); have n2_ := Aside0.mk (hbox); have n3_ := Aside0.mk (szl_ hg HB.out); have n4_ := Aside0.mk (szl_ hg HB.out); have n5_ := Aside0.mk (nel_ hg BK839.out); have n6_ := Aside0.mk (ner_ hg BK839.out); clear BK839 HB; have BK839 := n0_; have HB := n1_; have BK840 := n2_; have GW840 := n3_; have GE840 := n4_; have NB839_840 := n5_; have NB840_839 := n6_; clear n0_ n1_ n2_ n3_ n4_ n5_ n6_ hb hbox hg; have hnb57 := NB839_840.out; have hnc57 := NB840_839.out; have hcz58_0 : w56.cell? ⟨gb839, 0, none⟩ = some (.slice A0_0 l0_0.length c0_0) := (blk_cell BK839.out 0).trans rfl; have hcz58_1 : w56.cell? ⟨gb839, 1, none⟩ = some (.slice A0_1 l0_1.length c0_1) := (blk_cell BK839.out 1).trans rfl; have hcz58_2 : w56.cell? ⟨gb839, 2, none⟩ = some (.slice A0_2 l0_2.length c0_2) := (blk_cell BK839.out 2).trans rfl; have hfz58_0 := blk_frozen BK839.out 0; have hfz58_1 := blk_frozen BK839.out 1; have hfz58_2 := blk_frozen BK839.out 2) | ((with_reducible refine gate_callee (f := 21) rfl ?_); refine goesL_ (some 11) rfl rfl Try.func21 (by kernel_rfl) rfl #[.agg #[.slice A0_0 l0_0.length c0_0, .slice A0_1 l0_1.length c0_1, .slice A0_2 l0_2.length c0_2]] rfl (by (try simp only [List.map_toArray, List.map_cons, List.map_nil]); first | done | rfl | (simp only [List.length_drop, List.length_take]; rfl)) ?_; (with_reducible refine (swashplateref01_CheckTable.calls k _ _ l0_0 _ _ l0_1 _ _ l0_2 t841 _ ?side1 ?side2 ?side3 ?side4 ?side5 ?side6 A4.out).mono ?_); (case side1 => exact cr_ (Kd.C_below HR0_0.out HB.out)); (case side2 => exact HC0_0.out); (case side3 => exact cr_ (Kd.C_below HR0_1.out HB.out)); (case side4 => exact HC0_1.out); (case side5 => exact cr_ (Kd.C_below HR0_2.out HB.out)); (case side6 => exact HC0_2.out); rintro e w59 ⟨rfl, hb⟩; refine ⟨_, rfl, ?_⟩; have n0_ := Aside0.mk (blk_below (bk_ BK839.out) hb); have n1_ := Aside0.mk (blk_below (bk_ BK840.out) hb); have n2_ := Aside0.mk (below_step (bl_ HB.out) hb); clear BK839 BK840 HB; have BK839 := n0_; have BK840 := n1_; have HB := n2_; clear n0_ n1_ n2_; (try clear hb); (try clear hb2); (try clear hk); (try clear hi)))
  go_ret2
  exact ⟨by first | rfl | (simp [errW_none, errW_some] <;> rfl) | (simp [*, errW_none, errW_some] <;> rfl), bl_ HB.out⟩
end Go.Proofs.Yteodlmgmmpkpoaa.PS
end
section
namespace Go.Proofs.Yteodlmgmmpkpoaa.PS
open Go.RowKit Go.Proofs.YteodlmgmmpkpoaaW.PrintWords Go.Proofs.YteodlmgmmpkpoaaW.PrintLast Go.Proofs.YteodlmgmmpkpoaaW.PrintMore
attribute [local go_sem] max2_int min2_int max_two min_two max_three min_three max_four min_four   -- for this text's walks alone
set_option linter.unusedVariables false
set_option linter.unusedSimpArgs false
mutual
def swashplatelaw01_SpansGreatest.j0 : Nat → Bool → List Int → List Int → List (List Int) → Int → Int → Int → Int → Option (Bool)
 | 0, _, _, _, _, _, _, _, _ => none
 | k + 1, x35, x849000, x849001, x849002, x850000, x850001, x851000, x851001 => if x35 = true then ((swashplatelaw01_works.f k).bind fun t855 => (some t855)) else ((swashplateref01_Copy.f k x849000 x849001 x849002).bind fun bt856 => ((spans_Greatest.f k bt856.1 bt856.2.1 bt856.2.2 x850000 x850001 x851000).bind fun bt865 => ((swashplateref01_Greatest.f k x849000 x849001 x849002 x850000 x850001 x851000).bind fun bt867 => (if bt865.1 = bt867.1 then (swashplatelaw01_SpansGreatest.j1 k bt865.1 bt865.2 (bt865.2 != bt867.2) x849000 x849001 x849002 x850000 x850001 x851000 x851001) else (swashplatelaw01_SpansGreatest.j1 k bt865.1 bt865.2 true x849000 x849001 x849002 x850000 x850001 x851000 x851001)))))
def swashplatelaw01_SpansGreatest.j1 : Nat → Int → Int → Bool → List Int → List Int → List (List Int) → Int → Int → Int → Int → Option (Bool)
 | 0, _, _, _, _, _, _, _, _, _, _ => none
 | k + 1, x7, x8, x61, x849000, x849001, x849002, x850000, x850001, x851000, x851001 => if x61 = true then (some false) else ((swashplateref01_Copy.f k x849000 x849001 x849002).bind fun bt869 => ((spans_Greatest.f k bt869.1 bt869.2.1 bt869.2.2 x850000 x850001 x851001).bind fun bt878 => (if x851001 < x851000 then (swashplatelaw01_SpansGreatest.j2 k x7 bt878.1 bt878.2 true) else (swashplatelaw01_SpansGreatest.j2 k x7 bt878.1 bt878.2 (x8 != 0)))))
def swashplatelaw01_SpansGreatest.j2 : Nat → Int → Int → Int → Bool → Option (Bool)
 | 0, _, _, _, _ => none
 | k + 1, x7, x11, x12, x79 => if x79 = true then ((swashplatelaw01_works.f k).bind fun t880 => (some t880)) else (if x12 = 0 then (if x11 ≥ x7 then ((swashplatelaw01_works.f k).bind fun t881 => (some t881)) else (some false)) else (some false))
end
def swashplatelaw01_SpansGreatest.f (k : Nat) (l0_0 : List Int) (l0_1 : List Int) (l0_2 : List (List Int)) (a1_0 : Int) (a1_1 : Int) (a2_0 : Int) (a2_1 : Int) : Option (Bool) := (swashplatelaw01_Far.f k l0_0 l0_1 l0_2).bind fun t851 => (if t851 = true then (swashplatelaw01_SpansGreatest.j0 k true l0_0 l0_1 l0_2 a1_0 a1_1 a2_0 a2_1) else ((swashplateref01_CheckTable.f k l0_0 l0_1 l0_2).bind fun t852 => (if t852 = 0 then (if 0 ≤ (wrap64 ((l0_0.length : Int) - 1)) then (if (wrap64 ((l0_0.length : Int) - 1)) < (l0_0.length : Int) then (if 0 < (l0_0.length : Int) then (swashplatelaw01_SpansGreatest.j0 k (decide ((wrap64 ((rd l0_0 (wrap64 ((l0_0.length : Int) - 1))) - (rd l0_0 0))) > 3000)) l0_0 l0_1 l0_2 a1_0 a1_1 a2_0 a2_1) else (none)) else (none)) else (none)) else (swashplatelaw01_SpansGreatest.j0 k false l0_0 l0_1 l0_2 a1_0 a1_1 a2_0 a2_1))))
def swashplatelaw01_SpansGreatest.T1 : Bool × List (List Nat × List Nat) := (true, [([], []), ([0], [0]), ([1, 1], [1]), ([2], [2]), ([3, 2, 2], [2, 3]), ([4, 2], [2, 4]), ([5, 4, 2], [2, 5]), ([6], [6]), ([7, 6], [6, 7]), ([6], [6]), ([9, 6], [6, 9]), ([10, 6], [6, 10]), ([11, 6], [6, 11]), ([8, 12, 6], [6, 8, 12]), ([13, 6], [6, 13]), ([6], [6]), ([15, 6], [6, 15]), ([16, 6], [6, 16]), ([17, 6], [6, 17]), ([14, 18, 6], [6, 14, 18]), ([19, 6], [6, 19]), ([6, 20, 2], [2, 6, 20]), ([2, 21], [2, 21])])
def swashplatelaw01_SpansGreatest.B1 : List Nat := [0, 1, 3, 7, 15, 31, 63, 127, 255, 127, 639, 1663, 3711, 8191, 16383, 127, 32895, 98431, 229503, 524287, 1048575, 2097151, 4194303]
theorem swashplatelaw01_SpansGreatest.tab1 : rtab .any (opsOf Try.f3 1) = swashplatelaw01_SpansGreatest.T1 := by kernel_rfl
theorem swashplatelaw01_SpansGreatest.bits1 : waitsOk swashplatelaw01_SpansGreatest.T1.2 swashplatelaw01_SpansGreatest.B1 = true := by kernel_rfl
def swashplatelaw01_SpansGreatest.T3 : Bool × List (List Nat × List Nat) := (true, [([], []), ([0], [0]), ([], []), ([], []), ([3], [3]), ([1, 2, 4, 1], [1, 2, 4]), ([5], [5]), ([6], [6]), ([6], [6]), ([7, 5, 0, 1, 2, 3, 4, 5, 6, 7], [7]), ([8, 9, 0, 1, 2, 3, 4, 5, 6, 7, 8, 9], [8])])
def swashplatelaw01_SpansGreatest.B3 : List Nat := [0, 1, 0, 0, 8, 31, 63, 127, 127, 255, 1023]
theorem swashplatelaw01_SpansGreatest.tab3 : rtab .any (opsOf Try.f3 3) = swashplatelaw01_SpansGreatest.T3 := by kernel_rfl
theorem swashplatelaw01_SpansGreatest.bits3 : waitsOk swashplatelaw01_SpansGreatest.T3.2 swashplatelaw01_SpansGreatest.B3 = true := by kernel_rfl
def swashplatelaw01_SpansGreatest.T7 : Bool × List (List Nat × List Nat) := (true, [([], []), ([0], [0]), ([], []), ([], []), ([3], [3]), ([1, 2, 4, 1], [1, 2, 4]), ([5], [5]), ([6], [6]), ([6], [6]), ([7, 5, 0, 1, 2, 3, 4, 5, 6, 7], [7]), ([8, 9, 0, 1, 2, 3, 4, 5, 6, 7, 8, 9], [8])])
def swashplatelaw01_SpansGreatest.B7 : List Nat := [0, 1, 0, 0, 8, 31, 63, 127, 127, 255, 1023]
theorem swashplatelaw01_SpansGreatest.tab7 : rtab .any (opsOf Try.f3 7) = swashplatelaw01_SpansGreatest.T7 := by kernel_rfl
theorem swashplatelaw01_SpansGreatest.bits7 : waitsOk swashplatelaw01_SpansGreatest.T7.2 swashplatelaw01_SpansGreatest.B7 = true := by kernel_rfl
set_option maxHeartbeats 8000000 in
set_option maxRecDepth 100000 in
theorem swashplatelaw01_SpansGreatest.calls (k : Nat) (A0_0 : Option Addr) (c0_0 : Nat) (l0_0 : List Int) (A0_1 : Option Addr) (c0_1 : Nat) (l0_1 : List Int) (A0_2 : Option Addr) (c0_2 : Nat) (l0_2 : List (List Int)) (a1_0 : Int) (a1_1 : Int) (a2_0 : Int) (a2_1 : Int) (r : Bool) (w : World) (hr0_0 : Kd.C (Kd.int .i64) w A0_0 l0_0.length l0_0) (hc0_0 : l0_0.length ≤ c0_0) (hr0_1 : Kd.C (Kd.int .i64) w A0_1 l0_1.length l0_1) (hc0_1 : l0_1.length ≤ c0_1) (hr0_2 : Kd.C (Kd.slice 3 (Kd.int .i64)) w A0_2 l0_2.length l0_2) (hc0_2 : l0_2.length ≤ c0_2) (h : swashplatelaw01_SpansGreatest.f k l0_0 l0_1 l0_2 a1_0 a1_1 a2_0 a2_1 = some r) (hrT : Aside0 (r = true)) :
  Calls Try.prog 3 #[.agg #[.slice A0_0 l0_0.length c0_0, .slice A0_1 l0_1.length c0_1, .slice A0_2 l0_2.length c0_2], .agg #[.int .i64 a1_0, .int .i64 a1_1], .agg #[.int .i64 a2_0, .int .i64 a2_1]] w fun e w' => e = .returned (.bool r) ∧ Below w.heap.size w w' := by
 have hu25 := Try.underlying25
 have hu27 := Try.underlying27
 have hu28 := Try.underlying28
 have HR0_0 := Aside0.mk hr0_0
 have HC0_0 := Aside0.mk hc0_0
 clear hr0_0 hc0_0
 have HR0_1 := Aside0.mk hr0_1
 have HC0_1 := Aside0.mk hc0_1
 clear hr0_1 hc0_1
 have HR0_2 := Aside0.mk hr0_2
 have HC0_2 := Aside0.mk hc0_2
 clear hr0_2 hc0_2
 have HB := Aside0.mk (Below.refl w.heap.size w)
 have H : ((swashplatelaw01_Far.f k l0_0 l0_1 l0_2).bind fun t851 => (if t851 = true then (swashplatelaw01_SpansGreatest.j0 k true l0_0 l0_1 l0_2 a1_0 a1_1 a2_0 a2_1) else ((swashplateref01_CheckTable.f k l0_0 l0_1 l0_2).bind fun t852 => (if t852 = 0 then (if 0 ≤ (wrap64 ((l0_0.length : Int) - 1)) then (if (wrap64 ((l0_0.length : Int) - 1)) < (l0_0.length : Int) then (if 0 < (l0_0.length : Int) then (swashplatelaw01_SpansGreatest.j0 k (decide ((wrap64 ((rd l0_0 (wrap64 ((l0_0.length : Int) - 1))) - (rd l0_0 0))) > 3000)) l0_0 l0_1 l0_2 a1_0 a1_1 a2_0 a2_1) else (none)) else (none)) else (none)) else (swashplatelaw01_SpansGreatest.j0 k false l0_0 l0_1 l0_2 a1_0 a1_1 a2_0 a2_1))))) = some r := h
 clear h
 have HC4 := Aside0.mk H
 clear H
 go_enter Try.func3, Try.ntmps3
 go_upto_region 1 with (first | ((with_reducible refine gate_dst (N := 3) rfl ?_); (try (refine gate_guard (by rfl) ?_; dsimp only)); refine box_event ?hg (N := 3) ?hd (cs := #[.slice A0_0 l0_0.length c0_0, .slice A0_1 l0_1.length c0_1, .slice A0_2 l0_2.length c0_2]) (t := 25) ?hr ?_; (case hd => rfl); (case hg => rfl); (case hr => first | (go_simp; done) | (go_simp; rfl)); intro gb848 hg w5 hbox hb; have n0_ := Aside0.mk (below_step (bl_ HB.out) hb); have n1_ := Aside0.mk (hbox); have n2_ := Aside0.mk (szl_ hg HB.out); have n3_ := Aside0.mk (szl_ hg HB.out); clear HB; have HB := n0_; have BK848 := n1_; have GW848 := n2_; have GE848 := n3_; clear n0_ n1_ n2_ n3_ hb hbox hg) | ((with_reducible refine gate_dst (N := 4) rfl ?_); (try (refine gate_guard (by rfl) ?_; dsimp only)); refine box_event ?hg (N := 4) ?hd (cs := #[.int .i64 a1_0, .int .i64 a1_1]) (t := 27) ?hr ?_; (case hd => rfl); (case hg => rfl); (case hr => first | (go_simp; done) | (go_simp; rfl)); intro gb849 hg w6 hbox hb; have n0_ := Aside0.mk (blk_below (bk_ BK848.out) hb); have n1_ := Aside0.mk (below_step (bl_ HB.out) hb); have n2_ := Aside0.mk (hbox); have n3_ := Aside0.mk (szl_ hg HB.out); have n4_ := Aside0.mk (szl_ hg HB.out); have n5_ := Aside0.mk (nel_ hg BK848.out); have n6_ := Aside0.mk (ner_ hg BK848.out); clear BK848 HB; have BK848 := n0_; have HB := n1_; have BK849 := n2_; have GW849 := n3_; have GE849 := n4_; have NB848_849 := n5_; have NB849_848 := n6_; clear n0_ n1_ n2_ n3_ n4_ n5_ n6_ hb hbox hg) | ((with_reducible refine gate_dst (N := 5) rfl ?_); (try (refine gate_guard (by rfl) ?_; dsimp only)); refine box_event ?hg (N := 5) ?hd (cs := #[.int .i64 a2_0, .int .i64 a2_1]) (t := 28) ?hr ?_; (case hd => rfl); (case hg => rfl); (case hr => first | (go_simp; done) | (go_simp; rfl)); intro gb850 hg w7 hbox hb; have n0_ := Aside0.mk (blk_below (bk_ BK848.out) hb); have n1_ := Aside0.mk (blk_below (bk_ BK849.out) hb); have n2_ := Aside0.mk (below_step (bl_ HB.out) hb); have n3_ := Aside0.mk (hbox); have n4_ := Aside0.mk (szl_ hg HB.out); have n5_ := Aside0.mk (szl_ hg HB.out); have n6_ := Aside0.mk (nel_ hg BK848.out); have n7_ := Aside0.mk (ner_ hg BK848.out); have n8_ := Aside0.mk (nel_ hg BK849.out); have n9_ := Aside0.mk (ner_ hg BK849.out); clear BK848 BK849 HB; have BK848 := n0_; have BK849 := n1_; have HB := n2_; have BK850 := n3_; have GW850 := n4_; have GE850 := n5_; have NB848_850 := n6_; have NB850_848 := n7_; have NB849_850 := n8_; have NB850_849 := n9_; clear n0_ n1_ n2_ n3_ n4_ n5_ n6_ n7_ n8_ n9_ hb hbox hg))
 (try simp only [Act.put, List.setIfInBounds_toArray, List.set_cons_zero, List.set_cons_succ])
 go_cut [35] (fun v35 wc => ∃ (kq : Nat) (x35_3 : Bool), v35 = .bool x35_3 ∧ Aside0 (swashplatelaw01_SpansGreatest.j0 kq x35_3 l0_0 l0_1 l0_2 a1_0 a1_1 a2_0 a2_1 = some r) ∧ Aside0 (kq ≤ k) ∧ Aside0 (wc.heap[gb848]? = some (.cells #[(.slice A0_0 l0_0.length c0_0), (.slice A0_1 l0_1.length c0_1), (.slice A0_2 l0_2.length c0_2)] 25 (0, 0))) ∧ Aside0 (wc.heap[gb849]? = some (.cells #[.int .i64 a1_0, .int .i64 a1_1] 27 (0, 0))) ∧ Aside0 (wc.heap[gb850]? = some (.cells #[.int .i64 a2_0, .int .i64 a2_1] 28 (0, 0))) ∧ Aside0 (Below w.heap.size w wc))
 case first =>
  have H := HC4.out
  clear HC4
  replace H := Option.bind_eq_some_iff.mp H
  obtain ⟨t851, A80, H⟩ := H
  replace H : (if t851 = true then (swashplatelaw01_SpansGreatest.j0 k true l0_0 l0_1 l0_2 a1_0 a1_1 a2_0 a2_1) else ((swashplateref01_CheckTable.f k l0_0 l0_1 l0_2).bind fun t852 => (if t852 = 0 then (if 0 ≤ (wrap64 ((l0_0.length : Int) - 1)) then (if (wrap64 ((l0_0.length : Int) - 1)) < (l0_0.length : Int) then (if 0 < (l0_0.length : Int) then (swashplatelaw01_SpansGreatest.j0 k (decide ((wrap64 ((rd l0_0 (wrap64 ((l0_0.length : Int) - 1))) - (rd l0_0 0))) > 3000)) l0_0 l0_1 l0_2 a1_0 a1_1 a2_0 a2_1) else (none)) else (none)) else (none)) else (swashplatelaw01_SpansGreatest.j0 k false l0_0 l0_1 l0_2 a1_0 a1_1 a2_0 a2_1)))) = some r := H
  have A8 := Aside0.mk A80
  clear A80
  by_cases c9 : t851 = true
  ·
   subst c9
   have H1 : (swashplatelaw01_SpansGreatest.j0 k true l0_0 l0_1 l0_2 a1_0 a1_1 a2_0 a2_1) = some r := by rw [if_pos rfl] at H; exact H
   clear H
   have H := H1
   clear H1
   have H' := Aside0.mk H
   clear H
   try go_wp2
   have n0_ := Aside0.mk (blk_drew BK848.out)
   have n1_ := Aside0.mk (blk_drew BK849.out)
   have n2_ := Aside0.mk (blk_drew BK850.out)
   have n3_ := Aside0.mk (below_drew1 HB.out)
   clear BK848 BK849 BK850 HB
   have BK848 := n0_
   have BK849 := n1_
   have BK850 := n2_
   have HB := n3_
   clear n0_ n1_ n2_ n3_
   refine start_ (n := 23) (S := fun w' => w'.cell? ⟨gb848, 0, none⟩ = some (.slice A0_0 l0_0.length c0_0) ∧ w'.cell? ⟨gb848, 1, none⟩ = some (.slice A0_1 l0_1.length c0_1) ∧ w'.cell? ⟨gb848, 2, none⟩ = some (.slice A0_2 l0_2.length c0_2)) (ds := []) #[false, false, false, false, false, false, false, false, false, false, false, false, false, false, false, false, false, false, false, false, false, false, false] (by kernel_rfl) rfl rfl ⟨(blk_cell BK848.out 0).trans rfl, (blk_cell BK848.out 1).trans rfl, (blk_cell BK848.out 2).trans rfl⟩ (fun hHeld => ?_); refine with_tabW swashplatelaw01_SpansGreatest.tab1 swashplatelaw01_SpansGreatest.bits1 (fun HT_ HW_ => ?_)
   generalize w7.drew = w10 at BK848 BK849 BK850 HB hHeld ⊢
   refine take_ (i := 0) (N := some 13) (v := ?_) (a' := ?_) #[true, false, false, false, false, false, false, false, false, false, false, false, false, false, false, false, false, false, false, false, false, false, false] rfl rfl (take_ofW HT_.out HW_.out (by kernel_rfl)) (fun _ _ _ h => h) (Or.inl ⟨by rfl, ?_⟩) hHeld ?_ ?_
   rotate_left
   ·
    rintro w' ⟨s0, s1, s2⟩
    go_simp
    with_reducible rfl
   rotate_left
   ·
    simp only [Act.put, List.setIfInBounds_toArray, List.set_cons_zero, List.set_cons_succ, i64_w, i32_w]
    rfl
   refine one_ (i := 1) (N := some 14) #[true, true, false, false, false, false, false, false, false, false, false, false, false, false, false, false, false, false, false, false, false, false, false] rfl rfl (one_of HT_.out (by kernel_rfl)) (by decide) (fun K hK => ?_)
   refine goes_ Try.func20 (by kernel_rfl) rfl #[.agg #[.slice A0_0 l0_0.length c0_0, .slice A0_1 l0_1.length c0_1, .slice A0_2 l0_2.length c0_2]] (by rfl) rfl rfl (by (try simp only [List.map_toArray, List.map_cons, List.map_nil]); first | done | rfl | (simp only [List.length_drop, List.length_take]; rfl)) ?_
   with_reducible refine (swashplatelaw01_Far.calls k _ _ l0_0 _ _ l0_1 _ _ l0_2 true _ ?side1 ?side2 ?side3 ?side4 ?side5 ?side6 A8.out).mono ?_
   (case side1 => exact cr_ (Kd.C_below HR0_0.out HB.out))
   (case side2 => exact HC0_0.out)
   (case side3 => exact cr_ (Kd.C_below HR0_1.out HB.out))
   (case side4 => exact HC0_1.out)
   (case side5 => exact cr_ (Kd.C_below HR0_2.out HB.out))
   (case side6 => exact HC0_2.out)
   rintro e w11 ⟨rfl, hb⟩
   refine ⟨_, rfl, ?_⟩
   have n0_ := Aside0.mk (blk_below (bk_ BK848.out) hb)
   have n1_ := Aside0.mk (blk_below (bk_ BK849.out) hb)
   have n2_ := Aside0.mk (blk_below (bk_ BK850.out) hb)
   have n3_ := Aside0.mk (below_step (bl_ HB.out) hb)
   clear BK848 BK849 BK850 HB
   have BK848 := n0_
   have BK849 := n1_
   have BK850 := n2_
   have HB := n3_
   clear n0_ n1_ n2_ n3_
   (try clear hb)
   (try clear hb2)
   (try clear hk)
   (try clear hi)
   refine hK.out _ _ ⟨(blk_cell BK848.out 0).trans rfl, (blk_cell BK848.out 1).trans rfl, (blk_cell BK848.out 2).trans rfl⟩ (fun hHeld => ?_)
   clear hK K
   refine norm_ (a' := ?_) ?_ ?_
   rotate_left
   ·
    show Act.put _ (some 14) _ = _
    simp only [Act.put, List.setIfInBounds_toArray, List.set_cons_zero, List.set_cons_succ, i64_w, i32_w]
    rfl
   refine pure_ (i := 2) (N := some 15) (v := ?_) (a' := ?_) #[true, true, true, false, false, false, false, false, false, false, false, false, false, false, false, false, false, false, false, false, false, false, false] rfl rfl (any_of HT_.out (by kernel_rfl)) (fun _ _ _ h => h) (Or.inl ⟨by rfl, ?_⟩) ?_ ?_
   rotate_left
   ·
    intro w'
    go_simp
    with_reducible rfl
   rotate_left
   ·
    simp only [Act.put, List.setIfInBounds_toArray, List.set_cons_zero, List.set_cons_succ, i64_w, i32_w]
    rfl
   refine pure_ (i := 3) (N := some 16) (v := undef) (a' := ?_) #[true, true, true, true, false, false, false, false, false, false, false, false, false, false, false, false, false, false, false, false, false, false, false] rfl rfl (any_of HT_.out (by kernel_rfl)) (fun _ _ _ h => h) (Or.inr ⟨by rfl, rfl⟩) ?_ ?_
   rotate_left
   ·
    simp only [Act.put, List.setIfInBounds_toArray, List.set_cons_zero, List.set_cons_succ, i64_w, i32_w]
    rfl
   refine pure_ (i := 4) (N := some 17) (v := undef) (a' := ?_) #[true, true, true, true, true, false, false, false, false, false, false, false, false, false, false, false, false, false, false, false, false, false, false] rfl rfl (any_of HT_.out (by kernel_rfl)) (fun _ _ _ h => h) (Or.inr ⟨by rfl, rfl⟩) ?_ ?_
   rotate_left
   ·
    simp only [Act.put, List.setIfInBounds_toArray, List.set_cons_zero, List.set_cons_succ, i64_w, i32_w]
    rfl
   refine pure_ (i := 5) (N := some 18) (v := undef) (a' := ?_) #[true, true, true, true, true, true, false, false, false, false, false, false, false, false, false, false, false, false, false, false, false, false, false] rfl rfl (any_of HT_.out (by kernel_rfl)) (fun _ _ _ h => h) (Or.inr ⟨by rfl, rfl⟩) ?_ ?_
   rotate_left
   ·
    simp only [Act.put, List.setIfInBounds_toArray, List.set_cons_zero, List.set_cons_succ, i64_w, i32_w]
    rfl
   refine pure_ (i := 6) (N := some 19) (v := undef) (a' := ?_) #[true, true, true, true, true, true, true, false, false, false, false, false, false, false, false, false, false, false, false, false, false, false, false] rfl rfl (any_of HT_.out (by kernel_rfl)) (fun _ _ _ h => h) (Or.inr ⟨by rfl, rfl⟩) ?_ ?_
   rotate_left
   ·
    simp only [Act.put, List.setIfInBounds_toArray, List.set_cons_zero, List.set_cons_succ, i64_w, i32_w]
    rfl
   refine pure_ (i := 7) (N := some 20) (v := undef) (a' := ?_) #[true, true, true, true, true, true, true, true, false, false, false, false, false, false, false, false, false, false, false, false, false, false, false] rfl rfl (any_of HT_.out (by kernel_rfl)) (fun _ _ _ h => h) (Or.inr ⟨by rfl, rfl⟩) ?_ ?_
   rotate_left
   ·
    simp only [Act.put, List.setIfInBounds_toArray, List.set_cons_zero, List.set_cons_succ, i64_w, i32_w]
    rfl
   refine pure_ (i := 8) (N := some 21) (v := undef) (a' := ?_) #[true, true, true, true, true, true, true, true, true, false, false, false, false, false, false, false, false, false, false, false, false, false, false] rfl rfl (any_of HT_.out (by kernel_rfl)) (fun _ _ _ h => h) (Or.inr ⟨by rfl, rfl⟩) ?_ ?_
   rotate_left
   ·
    simp only [Act.put, List.setIfInBounds_toArray, List.set_cons_zero, List.set_cons_succ, i64_w, i32_w]
    rfl
   refine pure_ (i := 9) (N := some 22) (v := undef) (a' := ?_) #[true, true, true, true, true, true, true, true, true, true, false, false, false, false, false, false, false, false, false, false, false, false, false] rfl rfl (any_of HT_.out (by kernel_rfl)) (fun _ _ _ h => h) (Or.inr ⟨by rfl, rfl⟩) ?_ ?_
   rotate_left
   ·
    simp only [Act.put, List.setIfInBounds_toArray, List.set_cons_zero, List.set_cons_succ, i64_w, i32_w]
    rfl
   refine pure_ (i := 10) (N := some 23) (v := undef) (a' := ?_) #[true, true, true, true, true, true, true, true, true, true, true, false, false, false, false, false, false, false, false, false, false, false, false] rfl rfl (any_of HT_.out (by kernel_rfl)) (fun _ _ _ h => h) (Or.inr ⟨by rfl, rfl⟩) ?_ ?_
   rotate_left
   ·
    simp only [Act.put, List.setIfInBounds_toArray, List.set_cons_zero, List.set_cons_succ, i64_w, i32_w]
    rfl
   refine pure_ (i := 11) (N := some 24) (v := undef) (a' := ?_) #[true, true, true, true, true, true, true, true, true, true, true, true, false, false, false, false, false, false, false, false, false, false, false] rfl rfl (any_of HT_.out (by kernel_rfl)) (fun _ _ _ h => h) (Or.inr ⟨by rfl, rfl⟩) ?_ ?_
   rotate_left
   ·
    simp only [Act.put, List.setIfInBounds_toArray, List.set_cons_zero, List.set_cons_succ, i64_w, i32_w]
    rfl
   refine pure_ (i := 12) (N := some 25) (v := undef) (a' := ?_) #[true, true, true, true, true, true, true, true, true, true, true, true, true, false, false, false, false, false, false, false, false, false, false] rfl rfl (any_of HT_.out (by kernel_rfl)) (fun _ _ _ h => h) (Or.inr ⟨by rfl, rfl⟩) ?_ ?_
   rotate_left
   ·
    simp only [Act.put, List.setIfInBounds_toArray, List.set_cons_zero, List.set_cons_succ, i64_w, i32_w]
    rfl
   refine pure_ (i := 13) (N := some 26) (v := undef) (a' := ?_) #[true, true, true, true, true, true, true, true, true, true, true, true, true, true, false, false, false, false, false, false, false, false, false] rfl rfl (any_of HT_.out (by kernel_rfl)) (fun _ _ _ h => h) (Or.inr ⟨by rfl, rfl⟩) ?_ ?_
   rotate_left
   ·
    simp only [Act.put, List.setIfInBounds_toArray, List.set_cons_zero, List.set_cons_succ, i64_w, i32_w]
    rfl
   refine pure_ (i := 14) (N := some 27) (v := undef) (a' := ?_) #[true, true, true, true, true, true, true, true, true, true, true, true, true, true, true, false, false, false, false, false, false, false, false] rfl rfl (any_of HT_.out (by kernel_rfl)) (fun _ _ _ h => h) (Or.inr ⟨by rfl, rfl⟩) ?_ ?_
   rotate_left
   ·
    simp only [Act.put, List.setIfInBounds_toArray, List.set_cons_zero, List.set_cons_succ, i64_w, i32_w]
    rfl
   refine pure_ (i := 15) (N := some 28) (v := undef) (a' := ?_) #[true, true, true, true, true, true, true, true, true, true, true, true, true, true, true, true, false, false, false, false, false, false, false] rfl rfl (any_of HT_.out (by kernel_rfl)) (fun _ _ _ h => h) (Or.inr ⟨by rfl, rfl⟩) ?_ ?_
   rotate_left
   ·
    simp only [Act.put, List.setIfInBounds_toArray, List.set_cons_zero, List.set_cons_succ, i64_w, i32_w]
    rfl
   refine pure_ (i := 16) (N := some 29) (v := undef) (a' := ?_) #[true, true, true, true, true, true, true, true, true, true, true, true, true, true, true, true, true, false, false, false, false, false, false] rfl rfl (any_of HT_.out (by kernel_rfl)) (fun _ _ _ h => h) (Or.inr ⟨by rfl, rfl⟩) ?_ ?_
   rotate_left
   ·
    simp only [Act.put, List.setIfInBounds_toArray, List.set_cons_zero, List.set_cons_succ, i64_w, i32_w]
    rfl
   refine pure_ (i := 17) (N := some 30) (v := undef) (a' := ?_) #[true, true, true, true, true, true, true, true, true, true, true, true, true, true, true, true, true, true, false, false, false, false, false] rfl rfl (any_of HT_.out (by kernel_rfl)) (fun _ _ _ h => h) (Or.inr ⟨by rfl, rfl⟩) ?_ ?_
   rotate_left
   ·
    simp only [Act.put, List.setIfInBounds_toArray, List.set_cons_zero, List.set_cons_succ, i64_w, i32_w]
    rfl
   refine pure_ (i := 18) (N := some 31) (v := undef) (a' := ?_) #[true, true, true, true, true, true, true, true, true, true, true, true, true, true, true, true, true, true, true, false, false, false, false] rfl rfl (any_of HT_.out (by kernel_rfl)) (fun _ _ _ h => h) (Or.inr ⟨by rfl, rfl⟩) ?_ ?_
   rotate_left
   ·
    simp only [Act.put, List.setIfInBounds_toArray, List.set_cons_zero, List.set_cons_succ, i64_w, i32_w]
    rfl
   refine pure_ (i := 19) (N := some 32) (v := undef) (a' := ?_) #[true, true, true, true, true, true, true, true, true, true, true, true, true, true, true, true, true, true, true, true, false, false, false] rfl rfl (any_of HT_.out (by kernel_rfl)) (fun _ _ _ h => h) (Or.inr ⟨by rfl, rfl⟩) ?_ ?_
   rotate_left
   ·
    simp only [Act.put, List.setIfInBounds_toArray, List.set_cons_zero, List.set_cons_succ, i64_w, i32_w]
    rfl
   refine pure_ (i := 20) (N := some 33) (v := undef) (a' := ?_) #[true, true, true, true, true, true, true, true, true, true, true, true, true, true, true, true, true, true, true, true, true, false, false] rfl rfl (any_of HT_.out (by kernel_rfl)) (fun _ _ _ h => h) (Or.inr ⟨by rfl, rfl⟩) ?_ ?_
   rotate_left
   ·
    simp only [Act.put, List.setIfInBounds_toArray, List.set_cons_zero, List.set_cons_succ, i64_w, i32_w]
    rfl
   refine pure_ (i := 21) (N := some 34) (v := undef) (a' := ?_) #[true, true, true, true, true, true, true, true, true, true, true, true, true, true, true, true, true, true, true, true, true, true, false] rfl rfl (any_of HT_.out (by kernel_rfl)) (fun _ _ _ h => h) (Or.inr ⟨by rfl, rfl⟩) ?_ ?_
   rotate_left
   ·
    simp only [Act.put, List.setIfInBounds_toArray, List.set_cons_zero, List.set_cons_succ, i64_w, i32_w]
    rfl
   refine pure_ (i := 22) (N := some 35) (v := ?_) (a' := ?_) #[true, true, true, true, true, true, true, true, true, true, true, true, true, true, true, true, true, true, true, true, true, true, true] rfl rfl (any_of HT_.out (by kernel_rfl)) (fun _ _ _ h => h) (Or.inl ⟨by rfl, ?_⟩) ?_ ?_
   rotate_left
   ·
    intro w'
    go_simp
    with_reducible rfl
   rotate_left
   ·
    simp only [Act.put, List.setIfInBounds_toArray, List.set_cons_zero, List.set_cons_succ, i64_w, i32_w]
    rfl
   refine done_ (done_of HT_.out (by kernel_rfl)) ?_
   try go_wp2
   go_meet
   case rel => exact ⟨_, (true), (by first | rfl | (simp; done) | (simp [*]; done)), H', ⟨by first | omega | exact Nat.le_refl _⟩, ⟨bk_ BK848.out⟩, ⟨bk_ BK849.out⟩, ⟨bk_ BK850.out⟩, ⟨bl_ HB.out⟩⟩
  ·
   replace c9 := Bool.eq_false_iff.mpr c9
   subst c9
   have H1 : ((swashplateref01_CheckTable.f k l0_0 l0_1 l0_2).bind fun t852 => (if t852 = 0 then (if 0 ≤ (wrap64 ((l0_0.length : Int) - 1)) then (if (wrap64 ((l0_0.length : Int) - 1)) < (l0_0.length : Int) then (if 0 < (l0_0.length : Int) then (swashplatelaw01_SpansGreatest.j0 k (decide ((wrap64 ((rd l0_0 (wrap64 ((l0_0.length : Int) - 1))) - (rd l0_0 0))) > 3000)) l0_0 l0_1 l0_2 a1_0 a1_1 a2_0 a2_1) else (none)) else (none)) else (none)) else (swashplatelaw01_SpansGreatest.j0 k false l0_0 l0_1 l0_2 a1_0 a1_1 a2_0 a2_1))) = some r := by rw [if_neg (show ¬ (false = true) by decide)] at H; exact H
   clear H
   have H := H1
   clear H1
   replace H := Option.bind_eq_some_iff.mp H
   obtain ⟨t852, A120, H⟩ := H
   replace H : (if t852 = 0 then (if 0 ≤ (wrap64 ((l0_0.length : Int) - 1)) then (if (wrap64 ((l0_0.length : Int) - 1)) < (l0_0.length : Int) then (if 0 < (l0_0.length : Int) then (swashplatelaw01_SpansGreatest.j0 k (decide ((wrap64 ((rd l0_0 (wrap64 ((l0_0.length : Int) - 1))) - (rd l0_0 0))) > 3000)) l0_0 l0_1 l0_2 a1_0 a1_1 a2_0 a2_1) else (none)) else (none)) else (none)) else (swashplatelaw01_SpansGreatest.j0 k false l0_0 l0_1 l0_2 a1_0 a1_1 a2_0 a2_1)) = some r := H
   have A12 := Aside0.mk A120
   clear A120
   by_cases c13 : t852 = 0
   ·
    rw [if_pos c13] at H
    have c13b0 : (t852 == 0) = true := beq_iff_eq.mpr c13
    have c13b1 : (t852 != 0) = false := bne_eq_false_iff_eq.mpr c13
    clear c13
    (first | rw [c13b0] | (simp only [i64_w, i32_w]; rw [c13b0]) | skip)
    obtain ⟨ji14, hji14⟩ : ∃ j_ : Int, (wrap64 ((l0_0.length : Int) - 1)) = j_ := ⟨_, rfl⟩
    replace H : (if 0 ≤ (ji14) then (if (ji14) < (l0_0.length : Int) then (if 0 < (l0_0.length : Int) then (swashplatelaw01_SpansGreatest.j0 k (decide ((wrap64 ((rd l0_0 (ji14)) - (rd l0_0 0))) > 3000)) l0_0 l0_1 l0_2 a1_0 a1_1 a2_0 a2_1) else (none)) else (none)) else (none)) = some r := by first | (rw [hji14] at H; exact H) | (simp only [hji14] at H ⊢; exact H)
    (try rw [hji14] at A8)
    (try rw [hji14] at A12)
    have hji14w : (IntKind.i64.wrap ((l0_0.length : Int) - 1)) = ji14 := (i64_w _).trans hji14
    by_cases c15 : 0 ≤ (ji14)
    ·
     rw [if_pos c15] at H
     have c15b0 : decide (0 ≤ (ji14)) = true := decide_eq_true c15
     clear c15
     by_cases c16 : (ji14) < (l0_0.length : Int)
     ·
      rw [if_pos c16] at H
      have c16b0 : decide ((ji14) < (l0_0.length : Int)) = true := decide_eq_true c16
      clear c16
      by_cases c17 : 0 < (l0_0.length : Int)
      ·
       rw [if_pos c17] at H
       have c17b0 : decide (0 < (l0_0.length : Int)) = true := decide_eq_true c17
       have c17b1 : decide (0 < l0_0.length) = true := decide_eq_true (by omega)
       clear c17
       have H' := Aside0.mk H
       clear H
       try go_wp2
       have n0_ := Aside0.mk (blk_drew BK848.out)
       have n1_ := Aside0.mk (blk_drew BK849.out)
       have n2_ := Aside0.mk (blk_drew BK850.out)
       have n3_ := Aside0.mk (below_drew1 HB.out)
       clear BK848 BK849 BK850 HB
       have BK848 := n0_
       have BK849 := n1_
       have BK850 := n2_
       have HB := n3_
       clear n0_ n1_ n2_ n3_
       have p853 : 0 ≤ ((ji14) : Int) := of_decide_eq_true (by first | (with_reducible assumption) | assumption)
       have q853 : (ji14) < (l0_0.length : Int) := of_decide_eq_true (by first | (with_reducible assumption) | assumption)
       obtain ⟨ad853, e853, hx853_0⟩ := Kd.at_int HR0_0.out (ji14) p853 q853
       have hw853_0 := hx853_0
       cases e853
       replace hx853_0 := (HB.out.cell (World.block_lt_of_cell? w _ hx853_0)).trans hx853_0
       replace p853 := eq_true p853
       replace q853 := eq_true q853
       have p854 : 0 ≤ (0 : Int) := (by omega)
       have q854 : 0 < (l0_0.length : Int) := of_decide_eq_true (by first | (with_reducible assumption) | assumption)
       obtain ⟨ad854, e854, hx854_0⟩ := Kd.at_int HR0_0.out 0 p854 q854
       have hw854_0 := hx854_0
       (try rw [show ((0 : Int)).toNat = 0 from rfl] at hw854_0)
       (try rw [show 0 * 1 = 0 from rfl] at hw854_0)
       (try rw [Addr.add_zero'] at hw854_0)
       obtain rfl : ad853 = ad854 := (by injection e854)
       have qi854 : (0 < l0_0.length) = True := eq_true (by omega)
       (try rw [show ((0 : Int)).toNat = 0 from rfl] at hx854_0)
       (try rw [Addr.add_zero'] at hx854_0)
       replace hx854_0 := (HB.out.cell (World.block_lt_of_cell? w _ hx854_0)).trans hx854_0
       replace p854 := eq_true p854
       replace q854 := eq_true q854
       refine start_ (n := 23) (S := fun w' => w'.cell? ⟨gb848, 0, none⟩ = some (.slice (some ad853) l0_0.length c0_0) ∧ w'.cell? ⟨gb848, 1, none⟩ = some (.slice A0_1 l0_1.length c0_1) ∧ w'.cell? ⟨gb848, 2, none⟩ = some (.slice A0_2 l0_2.length c0_2) ∧ w'.cell? (ad853.add ((ji14)).toNat) = some (.int .i64 (rd l0_0 (ji14))) ∧ w'.cell? ad853 = some (.int .i64 (rd l0_0 0))) (ds := []) #[false, false, false, false, false, false, false, false, false, false, false, false, false, false, false, false, false, false, false, false, false, false, false] (by kernel_rfl) rfl rfl ⟨(blk_cell BK848.out 0).trans rfl, (blk_cell BK848.out 1).trans rfl, (blk_cell BK848.out 2).trans rfl, ((HB.out.cell (World.block_lt_of_cell? w _ hw853_0)).trans hw853_0), ((HB.out.cell (World.block_lt_of_cell? w _ hw854_0)).trans hw854_0)⟩ (fun hHeld => ?_); refine with_tabW swashplatelaw01_SpansGreatest.tab1 swashplatelaw01_SpansGreatest.bits1 (fun HT_ HW_ => ?_)
       generalize w7.drew = w18 at BK848 BK849 BK850 HB hx853_0 hx854_0 hHeld ⊢
       refine take_ (i := 0) (N := some 13) (v := ?_) (a' := ?_) #[true, false, false, false, false, false, false, false, false, false, false, false, false, false, false, false, false, false, false, false, false, false, false] rfl rfl (take_ofW HT_.out HW_.out (by kernel_rfl)) (fun _ _ _ h => h) (Or.inl ⟨by rfl, ?_⟩) hHeld ?_ ?_
       rotate_left
       ·
        rintro w' ⟨s0, s1, s2, s3, s4⟩
        go_simp
        with_reducible rfl
       rotate_left
       ·
        simp only [Act.put, List.setIfInBounds_toArray, List.set_cons_zero, List.set_cons_succ, i64_w, i32_w]
        rfl
       refine one_ (i := 1) (N := some 14) #[true, true, false, false, false, false, false, false, false, false, false, false, false, false, false, false, false, false, false, false, false, false, false] rfl rfl (one_of HT_.out (by kernel_rfl)) (by decide) (fun K hK => ?_)
       refine goes_ Try.func20 (by kernel_rfl) rfl #[.agg #[.slice (some ad853) l0_0.length c0_0, .slice A0_1 l0_1.length c0_1, .slice A0_2 l0_2.length c0_2]] (by rfl) rfl rfl (by (try simp only [List.map_toArray, List.map_cons, List.map_nil]); first | done | rfl | (simp only [List.length_drop, List.length_take]; rfl)) ?_
       with_reducible refine (swashplatelaw01_Far.calls k _ _ l0_0 _ _ l0_1 _ _ l0_2 false _ ?side1 ?side2 ?side3 ?side4 ?side5 ?side6 A8.out).mono ?_
       (case side1 => exact cr_ (Kd.C_below HR0_0.out HB.out))
       (case side2 => exact HC0_0.out)
       (case side3 => exact cr_ (Kd.C_below HR0_1.out HB.out))
       (case side4 => exact HC0_1.out)
       (case side5 => exact cr_ (Kd.C_below HR0_2.out HB.out))
       (case side6 => exact HC0_2.out)
       rintro e w19 ⟨rfl, hb⟩
       refine ⟨_, rfl, ?_⟩
       have n0_ := Aside0.mk (blk_below (bk_ BK848.out) hb)
       have n1_ := Aside0.mk (blk_below (bk_ BK849.out) hb)
       have n2_ := Aside0.mk (blk_below (bk_ BK850.out) hb)
       have n3_ := Aside0.mk (below_step (bl_ HB.out) hb)
       clear BK848 BK849 BK850 HB
       have BK848 := n0_
       have BK849 := n1_
       have BK850 := n2_
       have HB := n3_
       clear n0_ n1_ n2_ n3_
       (try clear hb)
       (try clear hb2)
       (try clear hk)
       (try clear hi)
       refine hK.out _ _ ⟨(blk_cell BK848.out 0).trans rfl, (blk_cell BK848.out 1).trans rfl, (blk_cell BK848.out 2).trans rfl, ((HB.out.cell (World.block_lt_of_cell? w _ hw853_0)).trans hw853_0), ((HB.out.cell (World.block_lt_of_cell? w _ hw854_0)).trans hw854_0)⟩ (fun hHeld => ?_)
       clear hK K
       refine norm_ (a' := ?_) ?_ ?_
       rotate_left
       ·
        show Act.put _ (some 14) _ = _
        simp only [Act.put, List.setIfInBounds_toArray, List.set_cons_zero, List.set_cons_succ, i64_w, i32_w]
        rfl
       refine pure_ (i := 2) (N := some 15) (v := ?_) (a' := ?_) #[true, true, true, false, false, false, false, false, false, false, false, false, false, false, false, false, false, false, false, false, false, false, false] rfl rfl (any_of HT_.out (by kernel_rfl)) (fun _ _ _ h => h) (Or.inl ⟨by rfl, ?_⟩) ?_ ?_
       rotate_left
       ·
        intro w'
        go_simp
        with_reducible rfl
       rotate_left
       ·
        simp only [Act.put, List.setIfInBounds_toArray, List.set_cons_zero, List.set_cons_succ, i64_w, i32_w]
        rfl
       refine take_ (i := 3) (N := some 16) (v := ?_) (a' := ?_) #[true, true, true, true, false, false, false, false, false, false, false, false, false, false, false, false, false, false, false, false, false, false, false] rfl rfl (take_ofW HT_.out HW_.out (by kernel_rfl)) (fun _ _ _ h => h) (Or.inl ⟨by rfl, ?_⟩) hHeld ?_ ?_
       rotate_left
       ·
        rintro w' ⟨s0, s1, s2, s3, s4⟩
        go_simp
        with_reducible rfl
       rotate_left
       ·
        simp only [Act.put, List.setIfInBounds_toArray, List.set_cons_zero, List.set_cons_succ, i64_w, i32_w]
        rfl
       refine one_ (i := 4) (N := some 17) #[true, true, true, true, true, false, false, false, false, false, false, false, false, false, false, false, false, false, false, false, false, false, false] rfl rfl (one_of HT_.out (by kernel_rfl)) (by decide) (fun K hK => ?_)
       refine goes_ Try.func21 (by kernel_rfl) rfl #[.agg #[.slice (some ad853) l0_0.length c0_0, .slice A0_1 l0_1.length c0_1, .slice A0_2 l0_2.length c0_2]] (by rfl) rfl rfl (by (try simp only [List.map_toArray, List.map_cons, List.map_nil]); first | done | rfl | (simp only [List.length_drop, List.length_take]; rfl)) ?_
       with_reducible refine (swashplateref01_CheckTable.calls k _ _ l0_0 _ _ l0_1 _ _ l0_2 t852 _ ?side1 ?side2 ?side3 ?side4 ?side5 ?side6 A12.out).mono ?_
       (case side1 => exact cr_ (Kd.C_below HR0_0.out HB.out))
       (case side2 => exact HC0_0.out)
       (case side3 => exact cr_ (Kd.C_below HR0_1.out HB.out))
       (case side4 => exact HC0_1.out)
       (case side5 => exact cr_ (Kd.C_below HR0_2.out HB.out))
       (case side6 => exact HC0_2.out)
       rintro e w20 ⟨rfl, hb⟩
       refine ⟨_, rfl, ?_⟩
       have n0_ := Aside0.mk (blk_below (bk_ BK848.out) hb)
       have n1_ := Aside0.mk (blk_below (bk_ BK849.out) hb)
       have n2_ := Aside0.mk (blk_below (bk_ BK850.out) hb)
       have n3_ := Aside0.mk (below_step (bl_ HB.out) hb)
       clear BK848 BK849 BK850 HB
       have BK848 := n0_
       have BK849 := n1_
       have BK850 := n2_
       have HB := n3_
       clear n0_ n1_ n2_ n3_
       (try clear hb)
       (try clear hb2)
       (try clear hk)
       (try clear hi)
       refine hK.out _ _ ⟨(blk_cell BK848.out 0).trans rfl, (blk_cell BK848.out 1).trans rfl, (blk_cell BK848.out 2).trans rfl, ((HB.out.cell (World.block_lt_of_cell? w _ hw853_0)).trans hw853_0), ((HB.out.cell (World.block_lt_of_cell? w _ hw854_0)).trans hw854_0)⟩ (fun hHeld => ?_)
       clear hK K
       refine norm_ (a' := ?_) ?_ ?_
       rotate_left
       ·
        show Act.put _ (some 17) _ = _
        simp only [Act.put, List.setIfInBounds_toArray, List.set_cons_zero, List.set_cons_succ, i64_w, i32_w]
        rfl
       refine pure_ (i := 5) (N := some 18) (v := ?_) (a' := ?_) #[true, true, true, true, true, true, false, false, false, false, false, false, false, false, false, false, false, false, false, false, false, false, false] rfl rfl (any_of HT_.out (by kernel_rfl)) (fun _ _ _ h => h) (Or.inl ⟨by rfl, ?_⟩) ?_ ?_
       rotate_left
       ·
        intro w'
        go_simp
        with_reducible rfl
       rotate_left
       ·
        simp only [Act.put, List.setIfInBounds_toArray, List.set_cons_zero, List.set_cons_succ, i64_w, i32_w]
        rfl
       refine pure_ (i := 6) (N := some 19) (v := ?_) (a' := ?_) #[true, true, true, true, true, true, true, false, false, false, false, false, false, false, false, false, false, false, false, false, false, false, false] rfl rfl (any_of HT_.out (by kernel_rfl)) (fun _ _ _ h => h) (Or.inl ⟨by rfl, ?_⟩) ?_ ?_
       rotate_left
       ·
        intro w'
        go_simp
        with_reducible rfl
       rotate_left
       ·
        simp only [Act.put, List.setIfInBounds_toArray, List.set_cons_zero, List.set_cons_succ, i64_w, i32_w]
        rfl
       refine pure_ (i := 7) (N := some 20) (v := ?_) (a' := ?_) #[true, true, true, true, true, true, true, true, false, false, false, false, false, false, false, false, false, false, false, false, false, false, false] rfl rfl (any_of HT_.out (by kernel_rfl)) (fun _ _ _ h => h) (Or.inl ⟨by rfl, ?_⟩) ?_ ?_
       rotate_left
       ·
        intro w'
        go_simp
        with_reducible rfl
       rotate_left
       ·
        simp only [Act.put, List.setIfInBounds_toArray, List.set_cons_zero, List.set_cons_succ, i64_w, i32_w]
        rfl
       refine pure_ (i := 9) (N := some 22) (v := ?_) (a' := ?_) #[true, true, true, true, true, true, true, true, false, true, false, false, false, false, false, false, false, false, false, false, false, false, false] rfl rfl (any_of HT_.out (by kernel_rfl)) (fun _ _ _ h => h) (Or.inl ⟨by rfl, ?_⟩) ?_ ?_
       rotate_left
       ·
        intro w'
        go_simp
        with_reducible rfl
       rotate_left
       ·
        simp only [Act.put, List.setIfInBounds_toArray, List.set_cons_zero, List.set_cons_succ, i64_w, i32_w]
        rfl
       refine pure_ (i := 15) (N := some 28) (v := ?_) (a' := ?_) #[true, true, true, true, true, true, true, true, false, true, false, false, false, false, false, true, false, false, false, false, false, false, false] rfl rfl (any_of HT_.out (by kernel_rfl)) (fun _ _ _ h => h) (Or.inl ⟨by rfl, ?_⟩) ?_ ?_
       rotate_left
       ·
        intro w'
        go_simp
        with_reducible rfl
       rotate_left
       ·
        simp only [Act.put, List.setIfInBounds_toArray, List.set_cons_zero, List.set_cons_succ, i64_w, i32_w]
        rfl
       refine take_ (i := 8) (N := some 21) (v := ?_) (a' := ?_) #[true, true, true, true, true, true, true, true, true, true, false, false, false, false, false, true, false, false, false, false, false, false, false] rfl rfl (take_ofW HT_.out HW_.out (by kernel_rfl)) (fun _ _ _ h => h) (Or.inl ⟨by rfl, ?_⟩) hHeld ?_ ?_
       rotate_left
       ·
        rintro w' ⟨s0, s1, s2, s3, s4⟩
        go_simp
        with_reducible rfl
       rotate_left
       ·
        simp only [Act.put, List.setIfInBounds_toArray, List.set_cons_zero, List.set_cons_succ, i64_w, i32_w]
        rfl
       refine take_ (i := 10) (N := some 23) (v := ?_) (a' := ?_) #[true, true, true, true, true, true, true, true, true, true, true, false, false, false, false, true, false, false, false, false, false, false, false] rfl rfl (take_ofW HT_.out HW_.out (by kernel_rfl)) (fun _ _ _ h => h) (Or.inl ⟨by rfl, ?_⟩) hHeld ?_ ?_
       rotate_left
       ·
        rintro w' ⟨s0, s1, s2, s3, s4⟩
        go_simp
        with_reducible rfl
       rotate_left
       ·
        simp only [Act.put, List.setIfInBounds_toArray, List.set_cons_zero, List.set_cons_succ, i64_w, i32_w]
        rfl
       refine pure_ (i := 11) (N := some 24) (v := ?_) (a' := ?_) #[true, true, true, true, true, true, true, true, true, true, true, true, false, false, false, true, false, false, false, false, false, false, false] rfl rfl (any_of HT_.out (by kernel_rfl)) (fun _ _ _ h => h) (Or.inl ⟨by rfl, ?_⟩) ?_ ?_
       rotate_left
       ·
        intro w'
        go_simp
        with_reducible rfl
       rotate_left
       ·
        simp only [Act.put, List.setIfInBounds_toArray, List.set_cons_zero, List.set_cons_succ, i64_w, i32_w]
        rfl
       refine pure_ (i := 12) (N := some 25) (v := ?_) (a' := ?_) #[true, true, true, true, true, true, true, true, true, true, true, true, true, false, false, true, false, false, false, false, false, false, false] rfl rfl (any_of HT_.out (by kernel_rfl)) (fun _ _ _ h => h) (Or.inl ⟨by rfl, ?_⟩) ?_ ?_
       rotate_left
       ·
        intro w'
        go_simp
        with_reducible rfl
       rotate_left
       ·
        simp only [Act.put, List.setIfInBounds_toArray, List.set_cons_zero, List.set_cons_succ, i64_w, i32_w]
        rfl
       refine pure_ (i := 13) (N := some 26) (v := ?_) (a' := ?_) #[true, true, true, true, true, true, true, true, true, true, true, true, true, true, false, true, false, false, false, false, false, false, false] rfl rfl (any_of HT_.out (by kernel_rfl)) (fun _ _ _ h => h) (Or.inl ⟨by rfl, ?_⟩) ?_ ?_
       rotate_left
       ·
        intro w'
        go_simp
        with_reducible rfl
       rotate_left
       ·
        simp only [Act.put, List.setIfInBounds_toArray, List.set_cons_zero, List.set_cons_succ, i64_w, i32_w]
        rfl
       refine take_ (i := 14) (N := some 27) (v := ?_) (a' := ?_) #[true, true, true, true, true, true, true, true, true, true, true, true, true, true, true, true, false, false, false, false, false, false, false] rfl rfl (take_ofW HT_.out HW_.out (by kernel_rfl)) (fun _ _ _ h => h) (Or.inl ⟨by rfl, ?_⟩) hHeld ?_ ?_
       rotate_left
       ·
        rintro w' ⟨s0, s1, s2, s3, s4⟩
        go_simp
        with_reducible rfl
       rotate_left
       ·
        simp only [Act.put, List.setIfInBounds_toArray, List.set_cons_zero, List.set_cons_succ, i64_w, i32_w]
        rfl
       refine take_ (i := 16) (N := some 29) (v := ?_) (a' := ?_) #[true, true, true, true, true, true, true, true, true, true, true, true, true, true, true, true, true, false, false, false, false, false, false] rfl rfl (take_ofW HT_.out HW_.out (by kernel_rfl)) (fun _ _ _ h => h) (Or.inl ⟨by rfl, ?_⟩) hHeld ?_ ?_
       rotate_left
       ·
        rintro w' ⟨s0, s1, s2, s3, s4⟩
        go_simp
        with_reducible rfl
       rotate_left
       ·
        simp only [Act.put, List.setIfInBounds_toArray, List.set_cons_zero, List.set_cons_succ, i64_w, i32_w]
        rfl
       refine pure_ (i := 17) (N := some 30) (v := ?_) (a' := ?_) #[true, true, true, true, true, true, true, true, true, true, true, true, true, true, true, true, true, true, false, false, false, false, false] rfl rfl (any_of HT_.out (by kernel_rfl)) (fun _ _ _ h => h) (Or.inl ⟨by rfl, ?_⟩) ?_ ?_
       rotate_left
       ·
        intro w'
        go_simp
        with_reducible rfl
       rotate_left
       ·
        simp only [Act.put, List.setIfInBounds_toArray, List.set_cons_zero, List.set_cons_succ, i64_w, i32_w]
        rfl
       refine take_ (i := 18) (N := some 31) (v := ?_) (a' := ?_) #[true, true, true, true, true, true, true, true, true, true, true, true, true, true, true, true, true, true, true, false, false, false, false] rfl rfl (take_ofW HT_.out HW_.out (by kernel_rfl)) (fun _ _ _ h => h) (Or.inl ⟨by rfl, ?_⟩) hHeld ?_ ?_
       rotate_left
       ·
        rintro w' ⟨s0, s1, s2, s3, s4⟩
        go_simp
        with_reducible rfl
       rotate_left
       ·
        simp only [Act.put, List.setIfInBounds_toArray, List.set_cons_zero, List.set_cons_succ, i64_w, i32_w]
        rfl
       refine pure_ (i := 19) (N := some 32) (v := ?_) (a' := ?_) #[true, true, true, true, true, true, true, true, true, true, true, true, true, true, true, true, true, true, true, true, false, false, false] rfl rfl (any_of HT_.out (by kernel_rfl)) (fun _ _ _ h => h) (Or.inl ⟨by rfl, ?_⟩) ?_ ?_
       rotate_left
       ·
        intro w'
        go_simp
        with_reducible rfl
       rotate_left
       ·
        simp only [Act.put, List.setIfInBounds_toArray, List.set_cons_zero, List.set_cons_succ, i64_w, i32_w]
        rfl
       refine pure_ (i := 20) (N := some 33) (v := ?_) (a' := ?_) #[true, true, true, true, true, true, true, true, true, true, true, true, true, true, true, true, true, true, true, true, true, false, false] rfl rfl (any_of HT_.out (by kernel_rfl)) (fun _ _ _ h => h) (Or.inl ⟨by rfl, ?_⟩) ?_ ?_
       rotate_left
       ·
        intro w'
        go_simp
        with_reducible rfl
       rotate_left
       ·
        simp only [Act.put, List.setIfInBounds_toArray, List.set_cons_zero, List.set_cons_succ, i64_w, i32_w]
        rfl
       refine pure_ (i := 21) (N := some 34) (v := ?_) (a' := ?_) #[true, true, true, true, true, true, true, true, true, true, true, true, true, true, true, true, true, true, true, true, true, true, false] rfl rfl (any_of HT_.out (by kernel_rfl)) (fun _ _ _ h => h) (Or.inl ⟨by rfl, ?_⟩) ?_ ?_
       rotate_left
       ·
        intro w'
        go_simp
        with_reducible rfl
       rotate_left
       ·
        simp only [Act.put, List.setIfInBounds_toArray, List.set_cons_zero, List.set_cons_succ, i64_w, i32_w]
        rfl
       refine pure_ (i := 22) (N := some 35) (v := ?_) (a' := ?_) #[true, true, true, true, true, true, true, true, true, true, true, true, true, true, true, true, true, true, true, true, true, true, true] rfl rfl (any_of HT_.out (by kernel_rfl)) (fun _ _ _ h => h) (Or.inl ⟨by rfl, ?_⟩) ?_ ?_
       rotate_left
       ·
        intro w'
        go_simp
        with_reducible rfl
       rotate_left
       ·
        simp only [Act.put, List.setIfInBounds_toArray, List.set_cons_zero, List.set_cons_succ, i64_w, i32_w]
        rfl
       refine done_ (done_of HT_.out (by kernel_rfl)) ?_
       try go_wp2
       go_meet
       case rel => exact ⟨_, (decide ((wrap64 ((rd l0_0 (ji14)) - (rd l0_0 0))) > 3000)), (by first | rfl | (simp; done) | (simp only [← hji14] <;> (first | rfl | simp)) | (simp [*]; done)), H', ⟨by first | omega | exact Nat.le_refl _⟩, ⟨bk_ BK848.out⟩, ⟨bk_ BK849.out⟩, ⟨bk_ BK850.out⟩, ⟨bl_ HB.out⟩⟩
      ·
       rw [if_neg c17] at H
       exact absurd H (by simp)
     ·
      rw [if_neg c16] at H
      exact absurd H (by simp)
    ·
     rw [if_neg c15] at H
     exact absurd H (by simp)
   ·
    rw [if_neg c13] at H
    have c13b0 : (t852 == 0) = false := beq_eq_false_iff_ne.mpr c13
    have c13b1 : (t852 != 0) = true := bne_iff_ne.mpr c13
    (first | rw [c13b0] | (simp only [i64_w, i32_w]; rw [c13b0]) | skip)
    have H' := Aside0.mk H
    clear H
    try go_wp2
    have n0_ := Aside0.mk (blk_drew BK848.out)
    have n1_ := Aside0.mk (blk_drew BK849.out)
    have n2_ := Aside0.mk (blk_drew BK850.out)
    have n3_ := Aside0.mk (below_drew1 HB.out)
    clear BK848 BK849 BK850 HB
    have BK848 := n0_
    have BK849 := n1_
    have BK850 := n2_
    have HB := n3_
    clear n0_ n1_ n2_ n3_
    refine start_ (n := 23) (S := fun w' => w'.cell? ⟨gb848, 0, none⟩ = some (.slice A0_0 l0_0.length c0_0) ∧ w'.cell? ⟨gb848, 1, none⟩ = some (.slice A0_1 l0_1.length c0_1) ∧ w'.cell? ⟨gb848, 2, none⟩ = some (.slice A0_2 l0_2.length c0_2)) (ds := []) #[false, false, false, false, false, false, false, false, false, false, false, false, false, false, false, false, false, false, false, false, false, false, false] (by kernel_rfl) rfl rfl ⟨(blk_cell BK848.out 0).trans rfl, (blk_cell BK848.out 1).trans rfl, (blk_cell BK848.out 2).trans rfl⟩ (fun hHeld => ?_); refine with_tabW swashplatelaw01_SpansGreatest.tab1 swashplatelaw01_SpansGreatest.bits1 (fun HT_ HW_ => ?_)
    generalize w7.drew = w21 at BK848 BK849 BK850 HB hHeld ⊢
    refine take_ (i := 0) (N := some 13) (v := ?_) (a' := ?_) #[true, false, false, false, false, false, false, false, false, false, false, false, false, false, false, false, false, false, false, false, false, false, false] rfl rfl (take_ofW HT_.out HW_.out (by kernel_rfl)) (fun _ _ _ h => h) (Or.inl ⟨by rfl, ?_⟩) hHeld ?_ ?_
    rotate_left
    ·
     rintro w' ⟨s0, s1, s2⟩
     go_simp
     with_reducible rfl
    rotate_left
    ·
     simp only [Act.put, List.setIfInBounds_toArray, List.set_cons_zero, List.set_cons_succ, i64_w, i32_w]
     rfl
    refine one_ (i := 1) (N := some 14) #[true, true, false, false, false, false, false, false, false, false, false, false, false, false, false, false, false, false, false, false, false, false, false] rfl rfl (one_of HT_.out (by kernel_rfl)) (by decide) (fun K hK => ?_)
    refine goes_ Try.func20 (by kernel_rfl) rfl #[.agg #[.slice A0_0 l0_0.length c0_0, .slice A0_1 l0_1.length c0_1, .slice A0_2 l0_2.length c0_2]] (by rfl) rfl rfl (by (try simp only [List.map_toArray, List.map_cons, List.map_nil]); first | done | rfl | (simp only [List.length_drop, List.length_take]; rfl)) ?_
    with_reducible refine (swashplatelaw01_Far.calls k _ _ l0_0 _ _ l0_1 _ _ l0_2 false _ ?side1 ?side2 ?side3 ?side4 ?side5 ?side6 A8.out).mono ?_
    (case side1 => exact cr_ (Kd.C_below HR0_0.out HB.out))
    (case side2 => exact HC0_0.out)
    (case side3 => exact cr_ (Kd.C_below HR0_1.out HB.out))
    (case side4 => exact HC0_1.out)
    (case side5 => exact cr_ (Kd.C_below HR0_2.out HB.out))
    (case side6 => exact HC0_2.out)
    rintro e w22 ⟨rfl, hb⟩
    refine ⟨_, rfl, ?_⟩
    have n0_ := Aside0.mk (blk_below (bk_ BK848.out) hb)
    have n1_ := Aside0.mk (blk_below (bk_ BK849.out) hb)
    have n2_ := Aside0.mk (blk_below (bk_ BK850.out) hb)
    have n3_ := Aside0.mk (below_step (bl_ HB.out) hb)
    clear BK848 BK849 BK850 HB
    have BK848 := n0_
    have BK849 := n1_
    have BK850 := n2_
    have HB := n3_
    clear n0_ n1_ n2_ n3_
    (try clear hb)
    (try clear hb2)
    (try clear hk)
    (try clear hi)
    refine hK.out _ _ ⟨(blk_cell BK848.out 0).trans rfl, (blk_cell BK848.out 1).trans rfl, (blk_cell BK848.out 2).trans rfl⟩ (fun hHeld => ?_)
    clear hK K
    refine norm_ (a' := ?_) ?_ ?_
    rotate_left
    ·
     show Act.put _ (some 14) _ = _
     simp only [Act.put, List.setIfInBounds_toArray, List.set_cons_zero, List.set_cons_succ, i64_w, i32_w]
     rfl
    refine pure_ (i := 2) (N := some 15) (v := ?_) (a' := ?_) #[true, true, true, false, false, false, false, false, false, false, false, false, false, false, false, false, false, false, false, false, false, false, false] rfl rfl (any_of HT_.out (by kernel_rfl)) (fun _ _ _ h => h) (Or.inl ⟨by rfl, ?_⟩) ?_ ?_
    rotate_left
    ·
     intro w'
     go_simp
     with_reducible rfl
    rotate_left
    ·
     simp only [Act.put, List.setIfInBounds_toArray, List.set_cons_zero, List.set_cons_succ, i64_w, i32_w]
     rfl
    refine take_ (i := 3) (N := some 16) (v := ?_) (a' := ?_) #[true, true, true, true, false, false, false, false, false, false, false, false, false, false, false, false, false, false, false, false, false, false, false] rfl rfl (take_ofW HT_.out HW_.out (by kernel_rfl)) (fun _ _ _ h => h) (Or.inl ⟨by rfl, ?_⟩) hHeld ?_ ?_
    rotate_left
    ·
     rintro w' ⟨s0, s1, s2⟩
     go_simp
     with_reducible rfl
    rotate_left
    ·
     simp only [Act.put, List.setIfInBounds_toArray, List.set_cons_zero, List.set_cons_succ, i64_w, i32_w]
     rfl
    refine one_ (i := 4) (N := some 17) #[true, true, true, true, true, false, false, false, false, false, false, false, false, false, false, false, false, false, false, false, false, false, false] rfl rfl (one_of HT_.out (by kernel_rfl)) (by decide) (fun K hK => ?_)
    refine goes_ Try.func21 (by kernel_rfl) rfl #[.agg #[.slice A0_0 l0_0.length c0_0, .slice A0_1 l0_1.length c0_1, .slice A0_2 l0_2.length c0_2]] (by rfl) rfl rfl (by (try simp only [List.map_toArray, List.map_cons, List.map_nil]); first | done | rfl | (simp only [List.length_drop, List.length_take]; rfl)) ?_
    with_reducible refine (swashplateref01_CheckTable.calls k _ _ l0_0 _ _ l0_1 _ _ l0_2 t852 _ ?side1 ?side2 ?side3 ?side4 ?side5 ?side6 A12.out).mono ?_
    (case side1 => exact cr_ (Kd.C_below HR0_0.out HB.out))
    (case side2 => exact HC0_0.out)
    (case side3 => exact cr_ (Kd.C_below HR0_1.out HB.out))
    (case side4 => exact HC0_1.out)
    (case side5 => exact cr_ (Kd.C_below HR0_2.out HB.out))
    (case side6 => exact HC0_2.out)
    rintro e w23 ⟨rfl, hb⟩
    refine ⟨_, rfl, ?_⟩
    have n0_ := Aside0.mk (blk_below (bk_ BK848.out) hb)
    have n1_ := Aside0.mk (blk_below (bk_ BK849.out) hb)
    have n2_ := Aside0.mk (blk_below (bk_ BK850.out) hb)
    have n3_ := Aside0.mk (below_step (bl_ HB.out) hb)
    clear BK848 BK849 BK850 HB
    have BK848 := n0_
    have BK849 := n1_
    have BK850 := n2_
    have HB := n3_
    clear n0_ n1_ n2_ n3_
    (try clear hb)
    (try clear hb2)
    (try clear hk)
    (try clear hi)
    refine hK.out _ _ ⟨(blk_cell BK848.out 0).trans rfl, (blk_cell BK848.out 1).trans rfl, (blk_cell BK848.out 2).trans rfl⟩ (fun hHeld => ?_)
    clear hK K
    refine norm_ (a' := ?_) ?_ ?_
    rotate_left
    ·
     show Act.put _ (some 17) _ = _
     simp only [Act.put, List.setIfInBounds_toArray, List.set_cons_zero, List.set_cons_succ, i64_w, i32_w]
     rfl
    refine pure_ (i := 5) (N := some 18) (v := ?_) (a' := ?_) #[true, true, true, true, true, true, false, false, false, false, false, false, false, false, false, false, false, false, false, false, false, false, false] rfl rfl (any_of HT_.out (by kernel_rfl)) (fun _ _ _ h => h) (Or.inl ⟨by rfl, ?_⟩) ?_ ?_
    rotate_left
    ·
     intro w'
     go_simp
     with_reducible rfl
    rotate_left
    ·
     simp only [Act.put, List.setIfInBounds_toArray, List.set_cons_zero, List.set_cons_succ, i64_w, i32_w]
     rfl
    refine pure_ (i := 6) (N := some 19) (v := ?_) (a' := ?_) #[true, true, true, true, true, true, true, false, false, false, false, false, false, false, false, false, false, false, false, false, false, false, false] rfl rfl (any_of HT_.out (by kernel_rfl)) (fun _ _ _ h => h) (Or.inl ⟨by rfl, ?_⟩) ?_ ?_
    rotate_left
    ·
     intro w'
     go_simp
     with_reducible rfl
    rotate_left
    ·
     simp only [Act.put, List.setIfInBounds_toArray, List.set_cons_zero, List.set_cons_succ, i64_w, i32_w]
     rfl
    refine pure_ (i := 7) (N := some 20) (v := undef) (a' := ?_) #[true, true, true, true, true, true, true, true, false, false, false, false, false, false, false, false, false, false, false, false, false, false, false] rfl rfl (any_of HT_.out (by kernel_rfl)) (fun _ _ _ h => h) (Or.inr ⟨by rfl, rfl⟩) ?_ ?_
    rotate_left
    ·
     simp only [Act.put, List.setIfInBounds_toArray, List.set_cons_zero, List.set_cons_succ, i64_w, i32_w]
     rfl
    refine pure_ (i := 8) (N := some 21) (v := undef) (a' := ?_) #[true, true, true, true, true, true, true, true, true, false, false, false, false, false, false, false, false, false, false, false, false, false, false] rfl rfl (any_of HT_.out (by kernel_rfl)) (fun _ _ _ h => h) (Or.inr ⟨by rfl, rfl⟩) ?_ ?_
    rotate_left
    ·
     simp only [Act.put, List.setIfInBounds_toArray, List.set_cons_zero, List.set_cons_succ, i64_w, i32_w]
     rfl
    refine pure_ (i := 9) (N := some 22) (v := undef) (a' := ?_) #[true, true, true, true, true, true, true, true, true, true, false, false, false, false, false, false, false, false, false, false, false, false, false] rfl rfl (any_of HT_.out (by kernel_rfl)) (fun _ _ _ h => h) (Or.inr ⟨by rfl, rfl⟩) ?_ ?_
    rotate_left
    ·
     simp only [Act.put, List.setIfInBounds_toArray, List.set_cons_zero, List.set_cons_succ, i64_w, i32_w]
     rfl
    refine pure_ (i := 10) (N := some 23) (v := undef) (a' := ?_) #[true, true, true, true, true, true, true, true, true, true, true, false, false, false, false, false, false, false, false, false, false, false, false] rfl rfl (any_of HT_.out (by kernel_rfl)) (fun _ _ _ h => h) (Or.inr ⟨by rfl, rfl⟩) ?_ ?_
    rotate_left
    ·
     simp only [Act.put, List.setIfInBounds_toArray, List.set_cons_zero, List.set_cons_succ, i64_w, i32_w]
     rfl
    refine pure_ (i := 11) (N := some 24) (v := undef) (a' := ?_) #[true, true, true, true, true, true, true, true, true, true, true, true, false, false, false, false, false, false, false, false, false, false, false] rfl rfl (any_of HT_.out (by kernel_rfl)) (fun _ _ _ h => h) (Or.inr ⟨by rfl, rfl⟩) ?_ ?_
    rotate_left
    ·
     simp only [Act.put, List.setIfInBounds_toArray, List.set_cons_zero, List.set_cons_succ, i64_w, i32_w]
     rfl
    refine pure_ (i := 12) (N := some 25) (v := undef) (a' := ?_) #[true, true, true, true, true, true, true, true, true, true, true, true, true, false, false, false, false, false, false, false, false, false, false] rfl rfl (any_of HT_.out (by kernel_rfl)) (fun _ _ _ h => h) (Or.inr ⟨by rfl, rfl⟩) ?_ ?_
    rotate_left
    ·
     simp only [Act.put, List.setIfInBounds_toArray, List.set_cons_zero, List.set_cons_succ, i64_w, i32_w]
     rfl
    refine pure_ (i := 13) (N := some 26) (v := undef) (a' := ?_) #[true, true, true, true, true, true, true, true, true, true, true, true, true, true, false, false, false, false, false, false, false, false, false] rfl rfl (any_of HT_.out (by kernel_rfl)) (fun _ _ _ h => h) (Or.inr ⟨by rfl, rfl⟩) ?_ ?_
    rotate_left
    ·
     simp only [Act.put, List.setIfInBounds_toArray, List.set_cons_zero, List.set_cons_succ, i64_w, i32_w]
     rfl
    refine pure_ (i := 14) (N := some 27) (v := undef) (a' := ?_) #[true, true, true, true, true, true, true, true, true, true, true, true, true, true, true, false, false, false, false, false, false, false, false] rfl rfl (any_of HT_.out (by kernel_rfl)) (fun _ _ _ h => h) (Or.inr ⟨by rfl, rfl⟩) ?_ ?_
    rotate_left
    ·
     simp only [Act.put, List.setIfInBounds_toArray, List.set_cons_zero, List.set_cons_succ, i64_w, i32_w]
     rfl
    refine pure_ (i := 15) (N := some 28) (v := undef) (a' := ?_) #[true, true, true, true, true, true, true, true, true, true, true, true, true, true, true, true, false, false, false, false, false, false, false] rfl rfl (any_of HT_.out (by kernel_rfl)) (fun _ _ _ h => h) (Or.inr ⟨by rfl, rfl⟩) ?_ ?_
    rotate_left
    ·
     simp only [Act.put, List.setIfInBounds_toArray, List.set_cons_zero, List.set_cons_succ, i64_w, i32_w]
     rfl
    refine pure_ (i := 16) (N := some 29) (v := undef) (a' := ?_) #[true, true, true, true, true, true, true, true, true, true, true, true, true, true, true, true, true, false, false, false, false, false, false] rfl rfl (any_of HT_.out (by kernel_rfl)) (fun _ _ _ h => h) (Or.inr ⟨by rfl, rfl⟩) ?_ ?_
    rotate_left
    ·
     simp only [Act.put, List.setIfInBounds_toArray, List.set_cons_zero, List.set_cons_succ, i64_w, i32_w]
     rfl
    refine pure_ (i := 17) (N := some 30) (v := undef) (a' := ?_) #[true, true, true, true, true, true, true, true, true, true, true, true, true, true, true, true, true, true, false, false, false, false, false] rfl rfl (any_of HT_.out (by kernel_rfl)) (fun _ _ _ h => h) (Or.inr ⟨by rfl, rfl⟩) ?_ ?_
    rotate_left
    ·
     simp only [Act.put, List.setIfInBounds_toArray, List.set_cons_zero, List.set_cons_succ, i64_w, i32_w]
     rfl
    refine pure_ (i := 18) (N := some 31) (v := undef) (a' := ?_) #[true, true, true, true, true, true, true, true, true, true, true, true, true, true, true, true, true, true, true, false, false, false, false] rfl rfl (any_of HT_.out (by kernel_rfl)) (fun _ _ _ h => h) (Or.inr ⟨by rfl, rfl⟩) ?_ ?_
    rotate_left
    ·
     simp only [Act.put, List.setIfInBounds_toArray, List.set_cons_zero, List.set_cons_succ, i64_w, i32_w]
     rfl
    refine pure_ (i := 19) (N := some 32) (v := undef) (a' := ?_) #[true, true, true, true, true, true, true, true, true, true, true, true, true, true, true, true, true, true, true, true, false, false, false] rfl rfl (any_of HT_.out (by kernel_rfl)) (fun _ _ _ h => h) (Or.inr ⟨by rfl, rfl⟩) ?_ ?_
    rotate_left
    ·
     simp only [Act.put, List.setIfInBounds_toArray, List.set_cons_zero, List.set_cons_succ, i64_w, i32_w]
     rfl
    refine pure_ (i := 20) (N := some 33) (v := undef) (a' := ?_) #[true, true, true, true, true, true, true, true, true, true, true, true, true, true, true, true, true, true, true, true, true, false, false] rfl rfl (any_of HT_.out (by kernel_rfl)) (fun _ _ _ h => h) (Or.inr ⟨by rfl, rfl⟩) ?_ ?_
    rotate_left
    ·
     simp only [Act.put, List.setIfInBounds_toArray, List.set_cons_zero, List.set_cons_succ, i64_w, i32_w]
     rfl
    refine pure_ (i := 21) (N := some 34) (v := ?_) (a' := ?_) #[true, true, true, true, true, true, true, true, true, true, true, true, true, true, true, true, true, true, true, true, true, true, false] rfl rfl (any_of HT_.out (by kernel_rfl)) (fun _ _ _ h => h) (Or.inl ⟨by rfl, ?_⟩) ?_ ?_
    rotate_left
    ·
     intro w'
     go_simp
     with_reducible rfl
    rotate_left
    ·
     simp only [Act.put, List.setIfInBounds_toArray, List.set_cons_zero, List.set_cons_succ, i64_w, i32_w]
     rfl
    refine pure_ (i := 22) (N := some 35) (v := ?_) (a' := ?_) #[true, true, true, true, true, true, true, true, true, true, true, true, true, true, true, true, true, true, true, true, true, true, true] rfl rfl (any_of HT_.out (by kernel_rfl)) (fun _ _ _ h => h) (Or.inl ⟨by rfl, ?_⟩) ?_ ?_
    rotate_left
    ·
     intro w'
     go_simp
     with_reducible rfl
    rotate_left
    ·
     simp only [Act.put, List.setIfInBounds_toArray, List.set_cons_zero, List.set_cons_succ, i64_w, i32_w]
     rfl
    refine done_ (done_of HT_.out (by kernel_rfl)) ?_
    try go_wp2
    go_meet
    case rel => exact ⟨_, (false), (by first | rfl | (simp; done) | (simp [*]; done)), H', ⟨by first | omega | exact Nat.le_refl _⟩, ⟨bk_ BK848.out⟩, ⟨bk_ BK849.out⟩, ⟨bk_ BK850.out⟩, ⟨bl_ HB.out⟩⟩
 case rest =>
  clear HC4
  try clear c1
  try clear c2
  try clear p2
  try clear p6
  try clear p8
  try clear q8
  try clear hx8
  try clear qi8
  try clear c9
  try clear c13
  try clear c13b0
  try clear c13b1
  try clear c15
  try clear c15b0
  try clear c16
  try clear c16b0
  try clear c17
  try clear c17b0
  try clear c17b1
  try clear c20
  try clear c21
  try clear hx853_0
  try clear hx854_0
  try clear p853
  try clear p854
  try clear q853
  try clear q854
  obtain ⟨kq, x35_3, rfl, HA, HJ3, BK848, BK849, BK850, HB⟩ := hcut
  cases kq with
  | zero => exact absurd HA.out (by simp [swashplatelaw01_SpansGreatest.j0])
  | succ kj3 =>
   have H := HA.out
   clear HA
   simp only [swashplatelaw01_SpansGreatest.j0] at H
   by_cases c24 : x35_3 = true
   ·
    subst c24
    have H1 : ((swashplatelaw01_works.f kj3).bind fun t855 => (some t855)) = some r := by rw [if_pos rfl] at H; exact H
    clear H
    have H := H1
    clear H1
    replace H := Option.bind_eq_some_iff.mp H
    obtain ⟨t855, A250, H⟩ := H
    replace H : (some t855) = some r := H
    have A25 := Aside0.mk A250
    clear A250
    obtain rfl := Option.some.inj H
    go_wp2_with (first | ((with_reducible refine gate_callee (f := 22) rfl ?_); refine goesL_ (some 36) rfl rfl Try.func22 (by kernel_rfl) rfl #[] rfl (by (try simp only [List.map_toArray, List.map_cons, List.map_nil]); first | done | rfl | (simp only [List.length_drop, List.length_take]; rfl)) ?_; (with_reducible refine (swashplatelaw01_works.calls kj3  t855 _ A25.out).mono ?_); rintro e w26 ⟨rfl, hb⟩; refine ⟨_, rfl, ?_⟩; have n0_ := Aside0.mk (blk_below (bk_ BK848.out) hb); have n1_ := Aside0.mk (blk_below (bk_ BK849.out) hb); have n2_ := Aside0.mk (blk_below (bk_ BK850.out) hb); have n3_ := Aside0.mk (below_step (bl_ HB.out) hb); clear BK848 BK849 BK850 HB; have BK848 := n0_; have BK849 := n1_; have BK850 := n2_; have HB := n3_; clear n0_ n1_ n2_ n3_; (try clear hb); (try clear hb2); (try clear hk); (try clear hi)))
    go_ret
    exact ⟨by first | rfl | (simp [errW_none, errW_some] <;> rfl) | (simp [*, errW_none, errW_some] <;> rfl), bl_ HB.out⟩
   ·
    replace c24 := Bool.eq_false_iff.mpr c24
    subst c24
    have H1 : ((swashplateref01_Copy.f kj3 l0_0 l0_1 l0_2).bind fun bt856 => ((spans_Greatest.f kj3 bt856.1 bt856.2.1 bt856.2.2 a1_0 a1_1 a2_0).bind fun bt865 => ((swashplateref01_Greatest.f kj3 l0_0 l0_1 l0_2 a1_0 a1_1 a2_0).bind fun bt867 => (if bt865.1 = bt867.1 then (swashplatelaw01_SpansGreatest.j1 kj3 bt865.1 bt865.2 (bt865.2 != bt867.2) l0_0 l0_1 l0_2 a1_0 a1_1 a2_0 a2_1) else (swashplatelaw01_SpansGreatest.j1 kj3 bt865.1 bt865.2 true l0_0 l0_1 l0_2 a1_0 a1_1 a2_0 a2_1))))) = some r := by rw [if_neg (show ¬ (false = true) by decide)] at H; exact H
    clear H
    have H := H1
    clear H1
    replace H := Option.bind_eq_some_iff.mp H
    obtain ⟨⟨t856, t859, t862⟩, A270, H⟩ := H
    replace H : ((spans_Greatest.f kj3 t856 t859 t862 a1_0 a1_1 a2_0).bind fun bt865 => ((swashplateref01_Greatest.f kj3 l0_0 l0_1 l0_2 a1_0 a1_1 a2_0).bind fun bt867 => (if bt865.1 = bt867.1 then (swashplatelaw01_SpansGreatest.j1 kj3 bt865.1 bt865.2 (bt865.2 != bt867.2) l0_0 l0_1 l0_2 a1_0 a1_1 a2_0 a2_1) else (swashplatelaw01_SpansGreatest.j1 kj3 bt865.1 bt865.2 true l0_0 l0_1 l0_2 a1_0 a1_1 a2_0 a2_1)))) = some r := H
    have A27 := Aside0.mk A270
    clear A270
    replace H := Option.bind_eq_some_iff.mp H
    obtain ⟨⟨t865, t866⟩, A280, H⟩ := H
    replace H : ((swashplateref01_Greatest.f kj3 l0_0 l0_1 l0_2 a1_0 a1_1 a2_0).bind fun bt867 => (if t865 = bt867.1 then (swashplatelaw01_SpansGreatest.j1 kj3 t865 t866 (t866 != bt867.2) l0_0 l0_1 l0_2 a1_0 a1_1 a2_0 a2_1) else (swashplatelaw01_SpansGreatest.j1 kj3 t865 t866 true l0_0 l0_1 l0_2 a1_0 a1_1 a2_0 a2_1))) = some r := H
    have A28 := Aside0.mk A280
    clear A280
    replace H := Option.bind_eq_some_iff.mp H
    obtain ⟨⟨t867, t868⟩, A290, H⟩ := H
    replace H : (if t865 = t867 then (swashplatelaw01_SpansGreatest.j1 kj3 t865 t866 (t866 != t868) l0_0 l0_1 l0_2 a1_0 a1_1 a2_0 a2_1) else (swashplatelaw01_SpansGreatest.j1 kj3 t865 t866 true l0_0 l0_1 l0_2 a1_0 a1_1 a2_0 a2_1)) = some r := H
    have A29 := Aside0.mk A290
    clear A290
    have HC30 := Aside0.mk H
    clear H
    try go_wp2
    have n0_ := Aside0.mk (blk_drew BK848.out)
    have n1_ := Aside0.mk (blk_drew BK849.out)
    have n2_ := Aside0.mk (blk_drew BK850.out)
    have n3_ := Aside0.mk (below_drew1 HB.out)
    clear BK848 BK849 BK850 HB
    have BK848 := n0_
    have BK849 := n1_
    have BK850 := n2_
    have HB := n3_
    clear n0_ n1_ n2_ n3_
    refine start_ (n := 11) (S := fun w' => w'.cell? ⟨gb848, 0, none⟩ = some (.slice A0_0 l0_0.length c0_0) ∧ w'.cell? ⟨gb848, 1, none⟩ = some (.slice A0_1 l0_1.length c0_1) ∧ w'.cell? ⟨gb848, 2, none⟩ = some (.slice A0_2 l0_2.length c0_2) ∧ w'.cell? ⟨gb849, 0, none⟩ = some (.int .i64 a1_0) ∧ w'.cell? ⟨gb849, 1, none⟩ = some (.int .i64 a1_1) ∧ w'.cell? ⟨gb850, 0, none⟩ = some (.int .i64 a2_0) ∧ w'.cell? ⟨gb850, 1, none⟩ = some (.int .i64 a2_1)) (ds := []) #[false, false, false, false, false, false, false, false, false, false, false] (by kernel_rfl) rfl rfl ⟨(blk_cell BK848.out 0).trans rfl, (blk_cell BK848.out 1).trans rfl, (blk_cell BK848.out 2).trans rfl, (blk_cell BK849.out 0).trans rfl, (blk_cell BK849.out 1).trans rfl, (blk_cell BK850.out 0).trans rfl, (blk_cell BK850.out 1).trans rfl⟩ (fun hHeld => ?_); refine with_tabW swashplatelaw01_SpansGreatest.tab3 swashplatelaw01_SpansGreatest.bits3 (fun HT_ HW_ => ?_)
    generalize wc.drew = w31 at BK848 BK849 BK850 HB hHeld ⊢
    refine pure_ (i := 3) (N := some 41) (v := ?_) (a' := ?_) #[false, false, false, true, false, false, false, false, false, false, false] rfl rfl (any_of HT_.out (by kernel_rfl)) (fun _ _ _ h => h) (Or.inl ⟨by rfl, ?_⟩) ?_ ?_
    rotate_left
    ·
     intro w'
     go_simp
     with_reducible rfl
    rotate_left
    ·
     simp only [Act.put, List.setIfInBounds_toArray, List.set_cons_zero, List.set_cons_succ, i64_w, i32_w]
     rfl
    refine take_ (i := 0) (N := some 38) (v := ?_) (a' := ?_) #[true, false, false, true, false, false, false, false, false, false, false] rfl rfl (take_ofW HT_.out HW_.out (by kernel_rfl)) (fun _ _ _ h => h) (Or.inl ⟨by rfl, ?_⟩) hHeld ?_ ?_
    rotate_left
    ·
     rintro w' ⟨s0, s1, s2, s3, s4, s5, s6⟩
     go_simp
     with_reducible rfl
    rotate_left
    ·
     simp only [Act.put, List.setIfInBounds_toArray, List.set_cons_zero, List.set_cons_succ, i64_w, i32_w]
     rfl
    refine take_ (i := 2) (N := some 40) (v := ?_) (a' := ?_) #[true, false, true, true, false, false, false, false, false, false, false] rfl rfl (take_ofW HT_.out HW_.out (by kernel_rfl)) (fun _ _ _ h => h) (Or.inl ⟨by rfl, ?_⟩) hHeld ?_ ?_
    rotate_left
    ·
     rintro w' ⟨s0, s1, s2, s3, s4, s5, s6⟩
     go_simp
     with_reducible rfl
    rotate_left
    ·
     simp only [Act.put, List.setIfInBounds_toArray, List.set_cons_zero, List.set_cons_succ, i64_w, i32_w]
     rfl
    refine take_ (i := 4) (N := some 42) (v := ?_) (a' := ?_) #[true, false, true, true, true, false, false, false, false, false, false] rfl rfl (take_ofW HT_.out HW_.out (by kernel_rfl)) (fun _ _ _ h => h) (Or.inl ⟨by rfl, ?_⟩) hHeld ?_ ?_
    rotate_left
    ·
     rintro w' ⟨s0, s1, s2, s3, s4, s5, s6⟩
     go_simp
     with_reducible rfl
    rotate_left
    ·
     simp only [Act.put, List.setIfInBounds_toArray, List.set_cons_zero, List.set_cons_succ, i64_w, i32_w]
     rfl
    refine one_ (i := 1) (N := some 39) #[true, true, true, true, true, false, false, false, false, false, false] rfl rfl (one_of HT_.out (by kernel_rfl)) (by decide) (fun K hK => ?_)
    refine goes_ Try.func24 (by kernel_rfl) rfl #[.agg #[.slice A0_0 l0_0.length c0_0, .slice A0_1 l0_1.length c0_1, .slice A0_2 l0_2.length c0_2]] (by rfl) rfl rfl (by (try simp only [List.map_toArray, List.map_cons, List.map_nil]); first | done | rfl | (simp only [List.length_drop, List.length_take]; rfl)) ?_
    with_reducible refine (swashplateref01_Copy.calls kj3 _ _ l0_0 _ _ l0_1 _ _ l0_2 t856 t859 t862 _ ?side1 ?side2 ?side3 ?side4 ?side5 ?side6 A27.out).mono ?_
    (case side1 => exact cr_ (Kd.C_below HR0_0.out HB.out))
    (case side2 => exact HC0_0.out)
    (case side3 => exact cr_ (Kd.C_below HR0_1.out HB.out))
    (case side4 => exact HC0_1.out)
    (case side5 => exact cr_ (Kd.C_below HR0_2.out HB.out))
    (case side6 => exact HC0_2.out)
    rintro e w32 ⟨v857, v860, v863, rfl, ho0, ho1, ho2, hb⟩
    refine ⟨_, rfl, ?_⟩
    have n0_ := Aside0.mk (Kd.R_lower ho0 (below_size (bl_ HB.out)))
    have n1_ := Aside0.mk (Kd.R_lower ho1 (below_size (bl_ HB.out)))
    have n2_ := Aside0.mk (Kd.S_lower ho2 (below_size (bl_ HB.out)))
    have n3_ := Aside0.mk (blk_below (bk_ BK848.out) hb)
    have n4_ := Aside0.mk (blk_below (bk_ BK849.out) hb)
    have n5_ := Aside0.mk (blk_below (bk_ BK850.out) hb)
    have n6_ := Aside0.mk (below_step (bl_ HB.out) hb)
    clear BK848 BK849 BK850 HB
    have HO858 := n0_
    have HO861 := n1_
    have HO864 := n2_
    have BK848 := n3_
    have BK849 := n4_
    have BK850 := n5_
    have HB := n6_
    clear n0_ n1_ n2_ n3_ n4_ n5_ n6_
    (try clear hb)
    (try clear hb2)
    (try clear hk)
    (try clear hi)
    (try clear ho0)
    (try clear ho1)
    (try clear ho2)
    obtain ⟨Ao33, co33, eo33⟩ := Kd.R_slice HO858.out
    (first | subst eo33 | (injection eo33 with f1_ f2_ f3_; have f4_ := f1_.symm; have f5_ := f3_.symm; clear f1_ f2_ f3_; subst f4_; subst f5_))
    obtain ⟨Ao34, co34, eo34⟩ := Kd.R_slice HO861.out
    (first | subst eo34 | (injection eo34 with f1_ f2_ f3_; have f4_ := f1_.symm; have f5_ := f3_.symm; clear f1_ f2_ f3_; subst f4_; subst f5_))
    obtain ⟨Ao35, co35, eo35⟩ := Kd.S_slice HO864.out
    (first | subst eo35 | (injection eo35 with f1_ f2_ f3_; have f4_ := f1_.symm; have f5_ := f3_.symm; clear f1_ f2_ f3_; subst f4_; subst f5_))
    refine hK.out _ _ ⟨(blk_cell BK848.out 0).trans rfl, (blk_cell BK848.out 1).trans rfl, (blk_cell BK848.out 2).trans rfl, (blk_cell BK849.out 0).trans rfl, (blk_cell BK849.out 1).trans rfl, (blk_cell BK850.out 0).trans rfl, (blk_cell BK850.out 1).trans rfl⟩ (fun hHeld => ?_)
    clear hK K
    refine norm_ (a' := ?_) ?_ ?_
    rotate_left
    ·
     show Act.put _ (some 39) _ = _
     simp only [Act.put, List.setIfInBounds_toArray, List.set_cons_zero, List.set_cons_succ, i64_w, i32_w]
     rfl
    refine one_ (i := 5) (N := some 43) #[true, true, true, true, true, true, false, false, false, false, false] rfl rfl (one_of HT_.out (by kernel_rfl)) (by decide) (fun K hK => ?_)
    refine goes_ Try.func23 (by kernel_rfl) rfl #[.agg #[.slice Ao33 t856.length co33, .slice Ao34 t859.length co34, .slice Ao35 t862.length co35], .agg #[.int .i64 a1_0, .int .i64 a1_1], .int .i64 a2_0] (by rfl) rfl rfl (by (try simp only [List.map_toArray, List.map_cons, List.map_nil]); first | done | rfl | (simp only [List.length_drop, List.length_take]; rfl)) ?_
    with_reducible refine (spans_Greatest.calls kj3 _ _ t856 _ _ t859 _ _ t862 a1_0 a1_1 a2_0 t865 t866 _ ?side1 ?side2 ?side3 ?side4 ?side5 ?side6 A28.out).mono ?_
    (case side1 => exact cr_ (Kd.R_reads' HO858.out).2.2)
    (case side2 => exact (Kd.R_reads' HO858.out).2.1)
    (case side3 => exact cr_ (Kd.R_reads' HO861.out).2.2)
    (case side4 => exact (Kd.R_reads' HO861.out).2.1)
    (case side5 => exact cr_ (Kd.S_reads' HO864.out).2.2)
    (case side6 => exact (Kd.S_reads' HO864.out).2.1)
    rintro e w36 ⟨rfl, hb⟩
    refine ⟨_, rfl, ?_⟩
    have n0_ := Aside0.mk (Kd.R_below (by (with_reducible repeat (first | apply Kd.R_alloc | apply Kd.R_drewN | apply Kd.R_drew)); exact HO858.out) hb)
    have n1_ := Aside0.mk (Kd.R_below (by (with_reducible repeat (first | apply Kd.R_alloc | apply Kd.R_drewN | apply Kd.R_drew)); exact HO861.out) hb)
    have n2_ := Aside0.mk (Kd.S_below (by (with_reducible repeat (first | apply Kd.S_alloc | apply Kd.S_drewN | apply Kd.S_drew)); exact HO864.out) hb)
    have n3_ := Aside0.mk (blk_below (bk_ BK848.out) hb)
    have n4_ := Aside0.mk (blk_below (bk_ BK849.out) hb)
    have n5_ := Aside0.mk (blk_below (bk_ BK850.out) hb)
    have n6_ := Aside0.mk (below_step (bl_ HB.out) hb)
    clear HO858 HO861 HO864 BK848 BK849 BK850 HB
    have HO858 := n0_
    have HO861 := n1_
    have HO864 := n2_
    have BK848 := n3_
    have BK849 := n4_
    have BK850 := n5_
    have HB := n6_
    clear n0_ n1_ n2_ n3_ n4_ n5_ n6_
    (try clear hb)
    (try clear hb2)
    (try clear hk)
    (try clear hi)
    refine hK.out _ _ ⟨(blk_cell BK848.out 0).trans rfl, (blk_cell BK848.out 1).trans rfl, (blk_cell BK848.out 2).trans rfl, (blk_cell BK849.out 0).trans rfl, (blk_cell BK849.out 1).trans rfl, (blk_cell BK850.out 0).trans rfl, (blk_cell BK850.out 1).trans rfl⟩ (fun hHeld => ?_)
    clear hK K
    refine norm_ (a' := ?_) ?_ ?_
    rotate_left
    ·
     show Act.put _ (some 43) _ = _
     simp only [Act.put, List.setIfInBounds_toArray, List.set_cons_zero, List.set_cons_succ, i64_w, i32_w]
     rfl
    refine pure_ (i := 6) (N := some 37) (v := ?_) (a' := ?_) #[true, true, true, true, true, true, true, false, false, false, false] rfl rfl (any_of HT_.out (by kernel_rfl)) (fun _ _ _ h => h) (Or.inl ⟨by rfl, ?_⟩) ?_ ?_
    rotate_left
    ·
     intro w'
     go_simp
     with_reducible rfl
    rotate_left
    ·
     simp only [Act.put, List.setIfInBounds_toArray, List.set_cons_zero, List.set_cons_succ, i64_w, i32_w]
     rfl
    refine pure_ (i := 7) (N := some 44) (v := ?_) (a' := ?_) #[true, true, true, true, true, true, true, true, false, false, false] rfl rfl (any_of HT_.out (by kernel_rfl)) (fun _ _ _ h => h) (Or.inl ⟨by rfl, ?_⟩) ?_ ?_
    rotate_left
    ·
     intro w'
     go_simp
     with_reducible rfl
    rotate_left
    ·
     simp only [Act.put, List.setIfInBounds_toArray, List.set_cons_zero, List.set_cons_succ, i64_w, i32_w]
     rfl
    refine pure_ (i := 8) (N := some 45) (v := ?_) (a' := ?_) #[true, true, true, true, true, true, true, true, true, false, false] rfl rfl (any_of HT_.out (by kernel_rfl)) (fun _ _ _ h => h) (Or.inl ⟨by rfl, ?_⟩) ?_ ?_
    rotate_left
    ·
     intro w'
     go_simp
     with_reducible rfl
    rotate_left
    ·
     simp only [Act.put, List.setIfInBounds_toArray, List.set_cons_zero, List.set_cons_succ, i64_w, i32_w]
     rfl
    refine pure_ (i := 9) (N := some 7) (v := ?_) (a' := ?_) #[true, true, true, true, true, true, true, true, true, true, false] rfl rfl (any_of HT_.out (by kernel_rfl)) (fun _ _ _ h => h) (Or.inl ⟨by rfl, ?_⟩) ?_ ?_
    rotate_left
    ·
     intro w'
     go_simp
     with_reducible rfl
    rotate_left
    ·
     simp only [Act.put, List.setIfInBounds_toArray, List.set_cons_zero, List.set_cons_succ, i64_w, i32_w]
     rfl
    refine pure_ (i := 10) (N := some 8) (v := ?_) (a' := ?_) #[true, true, true, true, true, true, true, true, true, true, true] rfl rfl (any_of HT_.out (by kernel_rfl)) (fun _ _ _ h => h) (Or.inl ⟨by rfl, ?_⟩) ?_ ?_
    rotate_left
    ·
     intro w'
     go_simp
     with_reducible rfl
    rotate_left
    ·
     simp only [Act.put, List.setIfInBounds_toArray, List.set_cons_zero, List.set_cons_succ, i64_w, i32_w]
     rfl
    refine done_ (done_of HT_.out (by kernel_rfl)) ?_
    have hnb37 := NB848_849.out
    have hnc37 := NB849_848.out
    have hnb38 := NB848_850.out
    have hnc38 := NB850_848.out
    have hcz39_0 : w36.cell? ⟨gb848, 0, none⟩ = some (.slice A0_0 l0_0.length c0_0) := (blk_cell BK848.out 0).trans rfl
    have hcz39_1 : w36.cell? ⟨gb848, 1, none⟩ = some (.slice A0_1 l0_1.length c0_1) := (blk_cell BK848.out 1).trans rfl
    have hcz39_2 : w36.cell? ⟨gb848, 2, none⟩ = some (.slice A0_2 l0_2.length c0_2) := (blk_cell BK848.out 2).trans rfl
    have hfz39_0 := blk_frozen BK848.out 0
    have hfz39_1 := blk_frozen BK848.out 1
    have hfz39_2 := blk_frozen BK848.out 2
    have hnb40 := NB849_850.out
    have hnc40 := NB850_849.out
    have hcz41_0 : w36.cell? ⟨gb849, 0, none⟩ = some (.int .i64 a1_0) := (blk_cell BK849.out 0).trans rfl
    have hcz41_1 : w36.cell? ⟨gb849, 1, none⟩ = some (.int .i64 a1_1) := (blk_cell BK849.out 1).trans rfl
    have hfz41_0 := blk_frozen BK849.out 0
    have hfz41_1 := blk_frozen BK849.out 1
    have hcz42_0 : w36.cell? ⟨gb850, 0, none⟩ = some (.int .i64 a2_0) := (blk_cell BK850.out 0).trans rfl
    have hcz42_1 : w36.cell? ⟨gb850, 1, none⟩ = some (.int .i64 a2_1) := (blk_cell BK850.out 1).trans rfl
    have hfz42_0 := blk_frozen BK850.out 0
    have hfz42_1 := blk_frozen BK850.out 1
    go_upto_region 5 with (first | ((with_reducible refine gate_callee (f := 25) rfl ?_); refine goesL_ (some 51) rfl rfl Try.func25 (by kernel_rfl) rfl #[.agg #[.slice A0_0 l0_0.length c0_0, .slice A0_1 l0_1.length c0_1, .slice A0_2 l0_2.length c0_2], .agg #[.int .i64 a1_0, .int .i64 a1_1], .int .i64 a2_0] rfl (by (try simp only [List.map_toArray, List.map_cons, List.map_nil]); first | done | rfl | (simp only [List.length_drop, List.length_take]; rfl)) ?_; (with_reducible refine (swashplateref01_Greatest.calls kj3 _ _ l0_0 _ _ l0_1 _ _ l0_2 a1_0 a1_1 a2_0 t867 t868 _ ?side1 ?side2 ?side3 ?side4 ?side5 ?side6 A29.out).mono ?_); (case side1 => exact cr_ (Kd.C_below HR0_0.out HB.out)); (case side2 => exact HC0_0.out); (case side3 => exact cr_ (Kd.C_below HR0_1.out HB.out)); (case side4 => exact HC0_1.out); (case side5 => exact cr_ (Kd.C_below HR0_2.out HB.out)); (case side6 => exact HC0_2.out); rintro e w43 ⟨rfl, hb⟩; refine ⟨_, rfl, ?_⟩; have n0_ := Aside0.mk (Kd.R_below (by (with_reducible repeat (first | apply Kd.R_alloc | apply Kd.R_drewN | apply Kd.R_drew)); exact HO858.out) hb); have n1_ := Aside0.mk (Kd.R_below (by (with_reducible repeat (first | apply Kd.R_alloc | apply Kd.R_drewN | apply Kd.R_drew)); exact HO861.out) hb); have n2_ := Aside0.mk (Kd.S_below (by (with_reducible repeat (first | apply Kd.S_alloc | apply Kd.S_drewN | apply Kd.S_drew)); exact HO864.out) hb); have n3_ := Aside0.mk (blk_below (bk_ BK848.out) hb); have n4_ := Aside0.mk (blk_below (bk_ BK849.out) hb); have n5_ := Aside0.mk (blk_below (bk_ BK850.out) hb); have n6_ := Aside0.mk (below_step (bl_ HB.out) hb); clear HO858 HO861 HO864 BK848 BK849 BK850 HB; have HO858 := n0_; have HO861 := n1_; have HO864 := n2_; have BK848 := n3_; have BK849 := n4_; have BK850 := n5_; have HB := n6_; clear n0_ n1_ n2_ n3_ n4_ n5_ n6_; (try clear hb); (try clear hb2); (try clear hk); (try clear hi)))
    (try simp only [Act.put, List.setIfInBounds_toArray, List.set_cons_zero, List.set_cons_succ])
    go_cut [61] (fun v61 wc => ∃ (kq : Nat) (x61_29 : Bool), v61 = .bool x61_29 ∧ Aside0 (swashplatelaw01_SpansGreatest.j1 kq t865 t866 x61_29 l0_0 l0_1 l0_2 a1_0 a1_1 a2_0 a2_1 = some r) ∧ Aside0 (kq ≤ kj3) ∧ Aside0 (wc.heap[gb848]? = some (.cells #[(.slice A0_0 l0_0.length c0_0), (.slice A0_1 l0_1.length c0_1), (.slice A0_2 l0_2.length c0_2)] 25 (0, 0))) ∧ Aside0 (wc.heap[gb849]? = some (.cells #[.int .i64 a1_0, .int .i64 a1_1] 27 (0, 0))) ∧ Aside0 (wc.heap[gb850]? = some (.cells #[.int .i64 a2_0, .int .i64 a2_1] 28 (0, 0))) ∧ Aside0 (Below w.heap.size w wc))
    case first =>
     have H := HC30.out
     clear HC30
     by_cases c44 : t865 = t867
     ·
      rw [if_pos c44] at H
      have c44b0 : (t865 == t867) = true := beq_iff_eq.mpr c44
      have c44b1 : (t865 != t867) = false := bne_eq_false_iff_eq.mpr c44
      clear c44
      (first | rw [c44b0] | (simp only [i64_w, i32_w]; rw [c44b0]) | skip)
      have H' := Aside0.mk H
      clear H
      go_wp2
      go_meet
      case rel => exact ⟨_, ((t866 != t868)), (by first | rfl | (simp; done) | (simp [*]; done)), H', ⟨by have := HJ3.out; first | omega | exact Nat.le_refl _⟩, ⟨bk_ BK848.out⟩, ⟨bk_ BK849.out⟩, ⟨bk_ BK850.out⟩, ⟨bl_ HB.out⟩⟩
     ·
      rw [if_neg c44] at H
      have c44b0 : (t865 == t867) = false := beq_eq_false_iff_ne.mpr c44
      have c44b1 : (t865 != t867) = true := bne_iff_ne.mpr c44
      (first | rw [c44b0] | (simp only [i64_w, i32_w]; rw [c44b0]) | skip)
      have H' := Aside0.mk H
      clear H
      go_wp2
      go_meet
      case rel => exact ⟨_, (true), (by first | rfl | (simp; done) | (simp [*]; done)), H', ⟨by have := HJ3.out; first | omega | exact Nat.le_refl _⟩, ⟨bk_ BK848.out⟩, ⟨bk_ BK849.out⟩, ⟨bk_ BK850.out⟩, ⟨bl_ HB.out⟩⟩
    case rest =>
     clear HC30
     try clear c1
     try clear c2
     try clear p2
     try clear c3
     try clear c4
     try clear p6
     try clear p8
     try clear q8
     try clear hx8
     try clear qi8
     try clear c9
     try clear c13
     try clear c13b0
     try clear c13b1
     try clear c15
     try clear c15b0
     try clear c16
     try clear c16b0
     try clear c17
     try clear c17b0
     try clear c17b1
     try clear c20
     try clear c21
     try clear c22
     try clear c23
     try clear c24
     try clear c25
     try clear c37
     try clear c38
     try clear c40
     try clear c44
     try clear c44b0
     try clear c44b1
     try clear hcz39_0
     try clear hcz39_1
     try clear hcz39_2
     try clear hcz41_0
     try clear hcz41_1
     try clear hcz42_0
     try clear hcz42_1
     try clear hfz39_0
     try clear hfz39_1
     try clear hfz39_2
     try clear hfz41_0
     try clear hfz41_1
     try clear hfz42_0
     try clear hfz42_1
     try clear hx853_0
     try clear hx854_0
     try clear p2
     try clear p6
     try clear p8
     try clear p853
     try clear p854
     try clear q8
     try clear q853
     try clear q854
     obtain ⟨kq, x61_29, rfl, HA, HJ29, BK848, BK849, BK850, HB⟩ := hcut
     cases kq with
     | zero => exact absurd HA.out (by simp [swashplatelaw01_SpansGreatest.j1])
     | succ kj29 =>
      have H := HA.out
      clear HA
      simp only [swashplatelaw01_SpansGreatest.j1] at H
      by_cases c45 : x61_29 = true
      ·
       subst c45
       have H1 : (some false) = some r := by rw [if_pos rfl] at H; exact H
       clear H
       have H := H1
       clear H1
       exact absurd ((Option.some.inj H).trans hrT.out) (by decide)
      ·
       replace c45 := Bool.eq_false_iff.mpr c45
       subst c45
       have H1 : ((swashplateref01_Copy.f kj29 l0_0 l0_1 l0_2).bind fun bt869 => ((spans_Greatest.f kj29 bt869.1 bt869.2.1 bt869.2.2 a1_0 a1_1 a2_1).bind fun bt878 => (if a2_1 < a2_0 then (swashplatelaw01_SpansGreatest.j2 kj29 t865 bt878.1 bt878.2 true) else (swashplatelaw01_SpansGreatest.j2 kj29 t865 bt878.1 bt878.2 (t866 != 0))))) = some r := by rw [if_neg (show ¬ (false = true) by decide)] at H; exact H
       clear H
       have H := H1
       clear H1
       replace H := Option.bind_eq_some_iff.mp H
       obtain ⟨⟨t869, t872, t875⟩, A460, H⟩ := H
       replace H : ((spans_Greatest.f kj29 t869 t872 t875 a1_0 a1_1 a2_1).bind fun bt878 => (if a2_1 < a2_0 then (swashplatelaw01_SpansGreatest.j2 kj29 t865 bt878.1 bt878.2 true) else (swashplatelaw01_SpansGreatest.j2 kj29 t865 bt878.1 bt878.2 (t866 != 0)))) = some r := H
       have A46 := Aside0.mk A460
       clear A460
       replace H := Option.bind_eq_some_iff.mp H
       obtain ⟨⟨t878, t879⟩, A470, H⟩ := H
       replace H : (if a2_1 < a2_0 then (swashplatelaw01_SpansGreatest.j2 kj29 t865 t878 t879 true) else (swashplatelaw01_SpansGreatest.j2 kj29 t865 t878 t879 (t866 != 0))) = some r := H
       have A47 := Aside0.mk A470
       clear A470
       have HC48 := Aside0.mk H
       clear H
       try go_wp2
       have n0_ := Aside0.mk (blk_drew BK848.out)
       have n1_ := Aside0.mk (blk_drew BK849.out)
       have n2_ := Aside0.mk (blk_drew BK850.out)
       have n3_ := Aside0.mk (below_drew1 HB.out)
       clear BK848 BK849 BK850 HB
       have BK848 := n0_
       have BK849 := n1_
       have BK850 := n2_
       have HB := n3_
       clear n0_ n1_ n2_ n3_
       refine start_ (n := 11) (S := fun w' => w'.cell? ⟨gb848, 0, none⟩ = some (.slice A0_0 l0_0.length c0_0) ∧ w'.cell? ⟨gb848, 1, none⟩ = some (.slice A0_1 l0_1.length c0_1) ∧ w'.cell? ⟨gb848, 2, none⟩ = some (.slice A0_2 l0_2.length c0_2) ∧ w'.cell? ⟨gb849, 0, none⟩ = some (.int .i64 a1_0) ∧ w'.cell? ⟨gb849, 1, none⟩ = some (.int .i64 a1_1) ∧ w'.cell? ⟨gb850, 0, none⟩ = some (.int .i64 a2_0) ∧ w'.cell? ⟨gb850, 1, none⟩ = some (.int .i64 a2_1)) (ds := []) #[false, false, false, false, false, false, false, false, false, false, false] (by kernel_rfl) rfl rfl ⟨(blk_cell BK848.out 0).trans rfl, (blk_cell BK848.out 1).trans rfl, (blk_cell BK848.out 2).trans rfl, (blk_cell BK849.out 0).trans rfl, (blk_cell BK849.out 1).trans rfl, (blk_cell BK850.out 0).trans rfl, (blk_cell BK850.out 1).trans rfl⟩ (fun hHeld => ?_); refine with_tabW swashplatelaw01_SpansGreatest.tab7 swashplatelaw01_SpansGreatest.bits7 (fun HT_ HW_ => ?_)
       generalize wc.drew = w49 at BK848 BK849 BK850 HB hHeld ⊢
       refine pure_ (i := 3) (N := some 66) (v := ?_) (a' := ?_) #[false, false, false, true, false, false, false, false, false, false, false] rfl rfl (any_of HT_.out (by kernel_rfl)) (fun _ _ _ h => h) (Or.inl ⟨by rfl, ?_⟩) ?_ ?_
       rotate_left
       ·
        intro w'
        go_simp
        with_reducible rfl
       rotate_left
       ·
        simp only [Act.put, List.setIfInBounds_toArray, List.set_cons_zero, List.set_cons_succ, i64_w, i32_w]
        rfl
       refine take_ (i := 0) (N := some 63) (v := ?_) (a' := ?_) #[true, false, false, true, false, false, false, false, false, false, false] rfl rfl (take_ofW HT_.out HW_.out (by kernel_rfl)) (fun _ _ _ h => h) (Or.inl ⟨by rfl, ?_⟩) hHeld ?_ ?_
       rotate_left
       ·
        rintro w' ⟨s0, s1, s2, s3, s4, s5, s6⟩
        go_simp
        with_reducible rfl
       rotate_left
       ·
        simp only [Act.put, List.setIfInBounds_toArray, List.set_cons_zero, List.set_cons_succ, i64_w, i32_w]
        rfl
       refine take_ (i := 2) (N := some 65) (v := ?_) (a' := ?_) #[true, false, true, true, false, false, false, false, false, false, false] rfl rfl (take_ofW HT_.out HW_.out (by kernel_rfl)) (fun _ _ _ h => h) (Or.inl ⟨by rfl, ?_⟩) hHeld ?_ ?_
       rotate_left
       ·
        rintro w' ⟨s0, s1, s2, s3, s4, s5, s6⟩
        go_simp
        with_reducible rfl
       rotate_left
       ·
        simp only [Act.put, List.setIfInBounds_toArray, List.set_cons_zero, List.set_cons_succ, i64_w, i32_w]
        rfl
       refine take_ (i := 4) (N := some 67) (v := ?_) (a' := ?_) #[true, false, true, true, true, false, false, false, false, false, false] rfl rfl (take_ofW HT_.out HW_.out (by kernel_rfl)) (fun _ _ _ h => h) (Or.inl ⟨by rfl, ?_⟩) hHeld ?_ ?_
       rotate_left
       ·
        rintro w' ⟨s0, s1, s2, s3, s4, s5, s6⟩
        go_simp
        with_reducible rfl
       rotate_left
       ·
        simp only [Act.put, List.setIfInBounds_toArray, List.set_cons_zero, List.set_cons_succ, i64_w, i32_w]
        rfl
       refine one_ (i := 1) (N := some 64) #[true, true, true, true, true, false, false, false, false, false, false] rfl rfl (one_of HT_.out (by kernel_rfl)) (by decide) (fun K hK => ?_)
       refine goes_ Try.func24 (by kernel_rfl) rfl #[.agg #[.slice A0_0 l0_0.length c0_0, .slice A0_1 l0_1.length c0_1, .slice A0_2 l0_2.length c0_2]] (by rfl) rfl rfl (by (try simp only [List.map_toArray, List.map_cons, List.map_nil]); first | done | rfl | (simp only [List.length_drop, List.length_take]; rfl)) ?_
       with_reducible refine (swashplateref01_Copy.calls kj29 _ _ l0_0 _ _ l0_1 _ _ l0_2 t869 t872 t875 _ ?side1 ?side2 ?side3 ?side4 ?side5 ?side6 A46.out).mono ?_
       (case side1 => exact cr_ (Kd.C_below HR0_0.out HB.out))
       (case side2 => exact HC0_0.out)
       (case side3 => exact cr_ (Kd.C_below HR0_1.out HB.out))
       (case side4 => exact HC0_1.out)
       (case side5 => exact cr_ (Kd.C_below HR0_2.out HB.out))
       (case side6 => exact HC0_2.out)
       rintro e w50 ⟨v870, v873, v876, rfl, ho0, ho1, ho2, hb⟩
       refine ⟨_, rfl, ?_⟩
       have n0_ := Aside0.mk (Kd.R_lower ho0 (below_size (bl_ HB.out)))
       have n1_ := Aside0.mk (Kd.R_lower ho1 (below_size (bl_ HB.out)))
       have n2_ := Aside0.mk (Kd.S_lower ho2 (below_size (bl_ HB.out)))
       have n3_ := Aside0.mk (blk_below (bk_ BK848.out) hb)
       have n4_ := Aside0.mk (blk_below (bk_ BK849.out) hb)
       have n5_ := Aside0.mk (blk_below (bk_ BK850.out) hb)
       have n6_ := Aside0.mk (below_step (bl_ HB.out) hb)
       clear BK848 BK849 BK850 HB
       have HO871 := n0_
       have HO874 := n1_
       have HO877 := n2_
       have BK848 := n3_
       have BK849 := n4_
       have BK850 := n5_
       have HB := n6_
       clear n0_ n1_ n2_ n3_ n4_ n5_ n6_
       (try clear hb)
       (try clear hb2)
       (try clear hk)
       (try clear hi)
       (try clear ho0)
       (try clear ho1)
       (try clear ho2)
       obtain ⟨Ao51, co51, eo51⟩ := Kd.R_slice HO871.out
       (first | subst eo51 | (injection eo51 with f1_ f2_ f3_; have f4_ := f1_.symm; have f5_ := f3_.symm; clear f1_ f2_ f3_; subst f4_; subst f5_))
       obtain ⟨Ao52, co52, eo52⟩ := Kd.R_slice HO874.out
       (first | subst eo52 | (injection eo52 with f1_ f2_ f3_; have f4_ := f1_.symm; have f5_ := f3_.symm; clear f1_ f2_ f3_; subst f4_; subst f5_))
       obtain ⟨Ao53, co53, eo53⟩ := Kd.S_slice HO877.out
       (first | subst eo53 | (injection eo53 with f1_ f2_ f3_; have f4_ := f1_.symm; have f5_ := f3_.symm; clear f1_ f2_ f3_; subst f4_; subst f5_))
       refine hK.out _ _ ⟨(blk_cell BK848.out 0).trans rfl, (blk_cell BK848.out 1).trans rfl, (blk_cell BK848.out 2).trans rfl, (blk_cell BK849.out 0).trans rfl, (blk_cell BK849.out 1).trans rfl, (blk_cell BK850.out 0).trans rfl, (blk_cell BK850.out 1).trans rfl⟩ (fun hHeld => ?_)
       clear hK K
       refine norm_ (a' := ?_) ?_ ?_
       rotate_left
       ·
        show Act.put _ (some 64) _ = _
        simp only [Act.put, List.setIfInBounds_toArray, List.set_cons_zero, List.set_cons_succ, i64_w, i32_w]
        rfl
       refine one_ (i := 5) (N := some 68) #[true, true, true, true, true, true, false, false, false, false, false] rfl rfl (one_of HT_.out (by kernel_rfl)) (by decide) (fun K hK => ?_)
       refine goes_ Try.func23 (by kernel_rfl) rfl #[.agg #[.slice Ao51 t869.length co51, .slice Ao52 t872.length co52, .slice Ao53 t875.length co53], .agg #[.int .i64 a1_0, .int .i64 a1_1], .int .i64 a2_1] (by rfl) rfl rfl (by (try simp only [List.map_toArray, List.map_cons, List.map_nil]); first | done | rfl | (simp only [List.length_drop, List.length_take]; rfl)) ?_
       with_reducible refine (spans_Greatest.calls kj29 _ _ t869 _ _ t872 _ _ t875 a1_0 a1_1 a2_1 t878 t879 _ ?side1 ?side2 ?side3 ?side4 ?side5 ?side6 A47.out).mono ?_
       (case side1 => exact cr_ (Kd.R_reads' HO871.out).2.2)
       (case side2 => exact (Kd.R_reads' HO871.out).2.1)
       (case side3 => exact cr_ (Kd.R_reads' HO874.out).2.2)
       (case side4 => exact (Kd.R_reads' HO874.out).2.1)
       (case side5 => exact cr_ (Kd.S_reads' HO877.out).2.2)
       (case side6 => exact (Kd.S_reads' HO877.out).2.1)
       rintro e w54 ⟨rfl, hb⟩
       refine ⟨_, rfl, ?_⟩
       have n0_ := Aside0.mk (Kd.R_below (by (with_reducible repeat (first | apply Kd.R_alloc | apply Kd.R_drewN | apply Kd.R_drew)); exact HO871.out) hb)
       have n1_ := Aside0.mk (Kd.R_below (by (with_reducible repeat (first | apply Kd.R_alloc | apply Kd.R_drewN | apply Kd.R_drew)); exact HO874.out) hb)
       have n2_ := Aside0.mk (Kd.S_below (by (with_reducible repeat (first | apply Kd.S_alloc | apply Kd.S_drewN | apply Kd.S_drew)); exact HO877.out) hb)
       have n3_ := Aside0.mk (blk_below (bk_ BK848.out) hb)
       have n4_ := Aside0.mk (blk_below (bk_ BK849.out) hb)
       have n5_ := Aside0.mk (blk_below (bk_ BK850.out) hb)
       have n6_ := Aside0.mk (below_step (bl_ HB.out) hb)
       clear HO871 HO874 HO877 BK848 BK849 BK850 HB
       have HO871 := n0_
       have HO874 := n1_
       have HO877 := n2_
       have BK848 := n3_
       have BK849 := n4_
       have BK850 := n5_
       have HB := n6_
       clear n0_ n1_ n2_ n3_ n4_ n5_ n6_
       (try clear hb)
       (try clear hb2)
       (try clear hk)
       (try clear hi)
       refine hK.out _ _ ⟨(blk_cell BK848.out 0).trans rfl, (blk_cell BK848.out 1).trans rfl, (blk_cell BK848.out 2).trans rfl, (blk_cell BK849.out 0).trans rfl, (blk_cell BK849.out 1).trans rfl, (blk_cell BK850.out 0).trans rfl, (blk_cell BK850.out 1).trans rfl⟩ (fun hHeld => ?_)
       clear hK K
       refine norm_ (a' := ?_) ?_ ?_
       rotate_left
       ·
        show Act.put _ (some 68) _ = _
        simp only [Act.put, List.setIfInBounds_toArray, List.set_cons_zero, List.set_cons_succ, i64_w, i32_w]
        rfl
       refine pure_ (i := 6) (N := some 62) (v := ?_) (a' := ?_) #[true, true, true, true, true, true, true, false, false, false, false] rfl rfl (any_of HT_.out (by kernel_rfl)) (fun _ _ _ h => h) (Or.inl ⟨by rfl, ?_⟩) ?_ ?_
       rotate_left
       ·
        intro w'
        go_simp
        with_reducible rfl
       rotate_left
       ·
        simp only [Act.put, List.setIfInBounds_toArray, List.set_cons_zero, List.set_cons_succ, i64_w, i32_w]
        rfl
       refine pure_ (i := 7) (N := some 69) (v := ?_) (a' := ?_) #[true, true, true, true, true, true, true, true, false, false, false] rfl rfl (any_of HT_.out (by kernel_rfl)) (fun _ _ _ h => h) (Or.inl ⟨by rfl, ?_⟩) ?_ ?_
       rotate_left
       ·
        intro w'
        go_simp
        with_reducible rfl
       rotate_left
       ·
        simp only [Act.put, List.setIfInBounds_toArray, List.set_cons_zero, List.set_cons_succ, i64_w, i32_w]
        rfl
       refine pure_ (i := 8) (N := some 70) (v := ?_) (a' := ?_) #[true, true, true, true, true, true, true, true, true, false, false] rfl rfl (any_of HT_.out (by kernel_rfl)) (fun _ _ _ h => h) (Or.inl ⟨by rfl, ?_⟩) ?_ ?_
       rotate_left
       ·
        intro w'
        go_simp
        with_reducible rfl
       rotate_left
       ·
        simp only [Act.put, List.setIfInBounds_toArray, List.set_cons_zero, List.set_cons_succ, i64_w, i32_w]
        rfl
       refine pure_ (i := 9) (N := some 11) (v := ?_) (a' := ?_) #[true, true, true, true, true, true, true, true, true, true, false] rfl rfl (any_of HT_.out (by kernel_rfl)) (fun _ _ _ h => h) (Or.inl ⟨by rfl, ?_⟩) ?_ ?_
       rotate_left
       ·
        intro w'
        go_simp
        with_reducible rfl
       rotate_left
       ·
        simp only [Act.put, List.setIfInBounds_toArray, List.set_cons_zero, List.set_cons_succ, i64_w, i32_w]
        rfl
       refine pure_ (i := 10) (N := some 12) (v := ?_) (a' := ?_) #[true, true, true, true, true, true, true, true, true, true, true] rfl rfl (any_of HT_.out (by kernel_rfl)) (fun _ _ _ h => h) (Or.inl ⟨by rfl, ?_⟩) ?_ ?_
       rotate_left
       ·
        intro w'
        go_simp
        with_reducible rfl
       rotate_left
       ·
        simp only [Act.put, List.setIfInBounds_toArray, List.set_cons_zero, List.set_cons_succ, i64_w, i32_w]
        rfl
       refine done_ (done_of HT_.out (by kernel_rfl)) ?_
       go_upto_region 8 with (fail)
       go_cut [79] (fun v79 wc => ∃ (kq : Nat) (x79_47 : Bool), v79 = .bool x79_47 ∧ Aside0 (swashplatelaw01_SpansGreatest.j2 kq t865 t878 t879 x79_47 = some r) ∧ Aside0 (kq ≤ kj29) ∧ Aside0 (wc.heap[gb848]? = some (.cells #[(.slice A0_0 l0_0.length c0_0), (.slice A0_1 l0_1.length c0_1), (.slice A0_2 l0_2.length c0_2)] 25 (0, 0))) ∧ Aside0 (wc.heap[gb849]? = some (.cells #[.int .i64 a1_0, .int .i64 a1_1] 27 (0, 0))) ∧ Aside0 (wc.heap[gb850]? = some (.cells #[.int .i64 a2_0, .int .i64 a2_1] 28 (0, 0))) ∧ Aside0 (Below w.heap.size w wc))
       case first =>
        have H := HC48.out
        clear HC48
        by_cases c55 : a2_1 < a2_0
        ·
         rw [if_pos c55] at H
         have c55b0 : decide (a2_1 < a2_0) = true := decide_eq_true c55
         clear c55
         (first | rw [c55b0] | (simp only [i64_w, i32_w]; rw [c55b0]) | skip)
         have H' := Aside0.mk H
         clear H
         have hnb56 := NB850_848.out
         have hnc56 := NB848_850.out
         have hnb57 := NB850_849.out
         have hnc57 := NB849_850.out
         have hcz58_0 : w54.cell? ⟨gb850, 0, none⟩ = some (.int .i64 a2_0) := (blk_cell BK850.out 0).trans rfl
         have hcz58_1 : w54.cell? ⟨gb850, 1, none⟩ = some (.int .i64 a2_1) := (blk_cell BK850.out 1).trans rfl
         have hfz58_0 := blk_frozen BK850.out 0
         have hfz58_1 := blk_frozen BK850.out 1
         go_wp2
         go_meet
         case rel => exact ⟨_, (true), (by first | rfl | (simp; done) | (simp [*]; done)), H', ⟨by have := HJ3.out; have := HJ29.out; first | omega | exact Nat.le_refl _⟩, ⟨bk_ BK848.out⟩, ⟨bk_ BK849.out⟩, ⟨bk_ BK850.out⟩, ⟨bl_ HB.out⟩⟩
        ·
         rw [if_neg c55] at H
         have c55b0 : decide (a2_1 < a2_0) = false := decide_eq_false c55
         clear c55
         (first | rw [c55b0] | (simp only [i64_w, i32_w]; rw [c55b0]) | skip)
         have H' := Aside0.mk H
         clear H
         have hnb59 := NB850_848.out
         have hnc59 := NB848_850.out
         have hnb60 := NB850_849.out
         have hnc60 := NB849_850.out
         have hcz61_0 : w54.cell? ⟨gb850, 0, none⟩ = some (.int .i64 a2_0) := (blk_cell BK850.out 0).trans rfl
         have hcz61_1 : w54.cell? ⟨gb850, 1, none⟩ = some (.int .i64 a2_1) := (blk_cell BK850.out 1).trans rfl
         have hfz61_0 := blk_frozen BK850.out 0
         have hfz61_1 := blk_frozen BK850.out 1
         go_wp2
         go_meet
         case rel => exact ⟨_, ((t866 != 0)), (by first | rfl | (simp; done) | (simp [*]; done)), H', ⟨by have := HJ3.out; have := HJ29.out; first | omega | exact Nat.le_refl _⟩, ⟨bk_ BK848.out⟩, ⟨bk_ BK849.out⟩, ⟨bk_ BK850.out⟩, ⟨bl_ HB.out⟩⟩
       case rest =>
        clear HC48
        try clear c1
        try clear c2
        try clear p2
        try clear c3
        try clear c4
        try clear c5
        try clear c6
        try clear p6
        try clear p8
        try clear q8
        try clear hx8
        try clear qi8
        try clear c9
        try clear c13
        try clear c13b0
        try clear c13b1
        try clear c15
        try clear c15b0
        try clear c16
        try clear c16b0
        try clear c17
        try clear c17b0
        try clear c17b1
        try clear c20
        try clear c21
        try clear c22
        try clear c23
        try clear c24
        try clear c25
        try clear c37
        try clear c38
        try clear c40
        try clear c44
        try clear c44b0
        try clear c44b1
        try clear c45
        try clear c55
        try clear c55b0
        try clear c56
        try clear c57
        try clear c59
        try clear c60
        try clear hcz39_0
        try clear hcz39_1
        try clear hcz39_2
        try clear hcz41_0
        try clear hcz41_1
        try clear hcz42_0
        try clear hcz42_1
        try clear hcz58_0
        try clear hcz58_1
        try clear hcz61_0
        try clear hcz61_1
        try clear hfz39_0
        try clear hfz39_1
        try clear hfz39_2
        try clear hfz41_0
        try clear hfz41_1
        try clear hfz42_0
        try clear hfz42_1
        try clear hfz58_0
        try clear hfz58_1
        try clear hfz61_0
        try clear hfz61_1
        try clear hx853_0
        try clear hx854_0
        try clear p2
        try clear p6
        try clear p8
        try clear p853
        try clear p854
        try clear q8
        try clear q853
        try clear q854
        obtain ⟨kq, x79_47, rfl, HA, HJ47, BK848, BK849, BK850, HB⟩ := hcut
        cases kq with
        | zero => exact absurd HA.out (by simp [swashplatelaw01_SpansGreatest.j2])
        | succ kj47 =>
         have H := HA.out
         clear HA
         simp only [swashplatelaw01_SpansGreatest.j2] at H
         by_cases c62 : x79_47 = true
         ·
          subst c62
          have H1 : ((swashplatelaw01_works.f kj47).bind fun t880 => (some t880)) = some r := by rw [if_pos rfl] at H; exact H
          clear H
          have H := H1
          clear H1
          replace H := Option.bind_eq_some_iff.mp H
          obtain ⟨t880, A630, H⟩ := H
          replace H : (some t880) = some r := H
          have A63 := Aside0.mk A630
          clear A630
          obtain rfl := Option.some.inj H
          go_wp2_with (first | ((with_reducible refine gate_callee (f := 22) rfl ?_); refine goesL_ (some 80) rfl rfl Try.func22 (by kernel_rfl) rfl #[] rfl (by (try simp only [List.map_toArray, List.map_cons, List.map_nil]); first | done | rfl | (simp only [List.length_drop, List.length_take]; rfl)) ?_; (with_reducible refine (swashplatelaw01_works.calls kj47  t880 _ A63.out).mono ?_); rintro e w64 ⟨rfl, hb⟩; refine ⟨_, rfl, ?_⟩; have n0_ := Aside0.mk (blk_below (bk_ BK848.out) hb); have n1_ := Aside0.mk (blk_below (bk_ BK849.out) hb); have n2_ := Aside0.mk (blk_below (bk_ BK850.out) hb); have n3_ := Aside0.mk (below_step (bl_ HB.out) hb); clear BK848 BK849 BK850 HB; have BK848 := n0_; have BK849 := n1_; have BK850 := n2_; have HB := n3_; clear n0_ n1_ n2_ n3_; (try clear hb); (try clear hb2); (try clear hk); (try clear hi)))
          go_ret
          exact ⟨by first | rfl | (simp [errW_none, errW_some] <;> rfl) | (simp [*, errW_none, errW_some] <;> rfl), bl_ HB.out⟩
         ·
          replace c62 := Bool.eq_false_iff.mpr c62
          subst c62
          have H1 : (if t879 = 0 then (if t878 ≥ t865 then ((swashplatelaw01_works.f kj47).bind fun t881 => (some t881)) else (some false)) else (some false)) = some r := by rw [if_neg (show ¬ (false = true) by decide)] at H; exact H
          clear H
          have H := H1
          clear H1
          by_cases c65 : t879 = 0
          ·
           rw [if_pos c65] at H
           have c65b0 : (t879 == 0) = true := beq_iff_eq.mpr c65
           have c65b1 : (t879 != 0) = false := bne_eq_false_iff_eq.mpr c65
           clear c65
           by_cases c66 : t878 ≥ t865
           ·
            rw [if_pos c66] at H
            have c66b0 : decide (t865 ≤ t878) = true := decide_eq_true c66
            clear c66
            replace H := Option.bind_eq_some_iff.mp H
            obtain ⟨t881, A670, H⟩ := H
            replace H : (some t881) = some r := H
            have A67 := Aside0.mk A670
            clear A670
            obtain rfl := Option.some.inj H
            go_wp2_with (first | (go_at_call 22; (with_reducible refine (swashplatelaw01_works.calls kj47  t881 _ A67.out).mono ?_); rintro e w68 ⟨rfl, hb⟩; have n0_ := Aside0.mk (blk_below (bk_ BK848.out) hb); have n1_ := Aside0.mk (blk_below (bk_ BK849.out) hb); have n2_ := Aside0.mk (blk_below (bk_ BK850.out) hb); have n3_ := Aside0.mk (below_step (bl_ HB.out) hb); clear BK848 BK849 BK850 HB; have BK848 := n0_; have BK849 := n1_; have BK850 := n2_; have HB := n3_; clear n0_ n1_ n2_ n3_; (try clear hb); (try clear hb2); (try clear hk); (try clear hi)))
            go_ret
            exact ⟨by first | rfl | (simp [errW_none, errW_some] <;> rfl) | (simp [*, errW_none, errW_some] <;> rfl), bl_ HB.out⟩
           ·
            rw [if_neg c66] at H
            have c66b0 : decide (t865 ≤ t878) = false := decide_eq_false c66
            clear c66
            exact absurd ((Option.some.inj H).trans hrT.out) (by decide)
          ·
           rw [if_neg c65] at H
           have c65b0 : (t879 == 0) = false := beq_eq_false_iff_ne.mpr c65
           have c65b1 : (t879 != 0) = true := bne_iff_ne.mpr c65
           exact absurd ((Option.some.inj H).trans hrT.out) (by decide)
end Go.Proofs.Yteodlmgmmpkpoaa.PS
end
section
namespace Go.Proofs.Yteodlmgmmpkpoaa.PS
open Go.RowKit Go.Proofs.YteodlmgmmpkpoaaW.PrintWords Go.Proofs.YteodlmgmmpkpoaaW.PrintLast Go.Proofs.YteodlmgmmpkpoaaW.PrintMore
set_option linter.unusedVariables false
def hiAt (X Y : List Int) (V : List (List Int)) (b0 b1 x : Int) : Int := ceP (mostP (ptsL X Y V x x b0 b1))
def grR (h : Int → Int) (limit first : Int) : Nat → Int × Int
  | 0 => (0, 3)
  | d + 1 => if h (first + d) ≤ limit then (first + d, 0) else grR h limit first d
theorem gr_lt (h : Int → Int) (limit first : Int) : ∀ d, (grR h limit first d).2 = 0 → (grR h limit first d).1 < first + d
  | 0, e => absurd e (show ¬ ((3 : Int) = 0) by decide)
  | d + 1, e => by
    unfold grR at e ⊢
    by_cases hc : h (first + d) ≤ limit
    · rw [if_pos hc]; dsimp only; omega
    · rw [if_neg hc] at e ⊢
      have := gr_lt h limit first d e
      omega
theorem gr_mono (h : Int → Int) (limit limit' first : Int) (hl : limit ≤ limit') : ∀ d, (grR h limit first d).2 = 0 → (grR h limit' first d).2 = 0 ∧ (grR h limit first d).1 ≤ (grR h limit' first d).1
  | 0, e => absurd e (show ¬ ((3 : Int) = 0) by decide)
  | d + 1, e => by
    unfold grR at e ⊢
    by_cases hc : h (first + d) ≤ limit
    · rw [if_pos hc, if_pos (by omega)]; exact ⟨rfl, Int.le_refl _⟩
    · rw [if_neg hc] at e ⊢
      by_cases hc' : h (first + d) ≤ limit'
      · rw [if_pos hc']
        have := gr_lt h limit first d e
        exact ⟨rfl, by dsimp only; omega⟩
      · rw [if_neg hc']
        exact gr_mono h limit limit' first hl d e
theorem ax_bd {X : List Int} (h : axisB X = true) : -1000000 ≤ gI X 0 ∧ gI X (X.length - 1) ≤ 1000000 ∧ gI X 0 ≤ gI X (X.length - 1) := by
  have hax := ax_of h
  unfold axisB at h
  simp only [Bool.and_eq_true, decide_eq_true_eq] at h
  obtain ⟨⟨h1, h2⟩, h3, h4⟩ := h
  have b0 := all_inM X h3 0 (by omega)
  have b1 := all_inM X h3 (X.length - 1) (by omega)
  have := hax.asc 0 (X.length - 1) (by omega) (by omega)
  omega
theorem tb_axes {X Y : List Int} {V : List (List Int)} (h : tableB X Y V = true) : axisB X = true ∧ axisB Y = true := by
  unfold tableB at h
  simp only [Bool.and_eq_true] at h
  exact h.1
theorem box_at {X Y : List Int} {V : List (List Int)} {b0 b1 x : Int} (ht : tableB X Y V = true) (ho : okS b0 b1 = true) (hy : onB Y b0 b1 = true) (h0 : gI X 0 ≤ x) (h1 : x ≤ gI X (X.length - 1)) : Box2 X Y V x x b0 b1 := by
  have hb := ax_bd (tb_axes ht).1
  exact ⟨ht, by unfold okS; simp; omega, ho, by rw [onB_iff]; exact ⟨h0, h1⟩, hy⟩
section
variable {X Y : List Int} {V : List (List Int)} {b0 b1 : Int}
theorem gr_loop (ht : tableB X Y V = true) (ho : okS b0 b1 = true) (hy : onB Y b0 b1 = true) (limit : Int) : ∀ (k d : Nat), d < k → gI X 0 + d ≤ gI X (X.length - 1) + 1 →
    spans_Greatest.l0 k limit (gI X 0) (gI X 0 + d - 1) X Y V b0 b1 = some (grR (hiAt X Y V b0 b1) limit (gI X 0) d)
  | 0, d, h, _ => absurd h (Nat.not_lt_zero _)
  | k + 1, d, hk, hd => by
    simp only [spans_Greatest.l0]
    have hb := ax_bd (tb_axes ht).1
    cases d with
    | zero => rw [if_neg (by omega)]; rfl
    | succ d =>
      have e : gI X 0 + ((d + 1 : Nat) : Int) - 1 = gI X 0 + d := by omega
      rw [e, if_pos (by omega)]
      have h := box_at (x := gI X 0 + d) ht ho hy (by omega) (by omega)
      rw [ext_total h, Option.bind_some]
      dsimp only
      rw [good_up (h.goodL h.most_in), Option.bind_some]
      unfold grR
      by_cases hc : hiAt X Y V b0 b1 (gI X 0 + d) ≤ limit
      · rw [if_pos hc]; exact if_pos hc
      · rw [if_neg hc, wr64 (by omega) (by omega), gr_loop ht ho hy limit k d (by omega) (by omega)]
        exact if_neg hc
theorem rgr_loop (ht : tableB X Y V = true) (ho : okS b0 b1 = true) (hy : onB Y b0 b1 = true) (limit : Int) : ∀ (k d : Nat), d < k → gI X 0 + d ≤ gI X (X.length - 1) + 1 →
    swashplateref01_Greatest.l0 k limit (gI X 0 + d - 1) X Y V b0 b1 = some (grR (hiAt X Y V b0 b1) limit (gI X 0) d)
  | 0, d, h, _ => absurd h (Nat.not_lt_zero _)
  | k + 1, d, hk, hd => by
    simp only [swashplateref01_Greatest.l0]
    have hb := ax_bd (tb_axes ht).1
    have hlen := (tb_lens ht).1
    have e0 : rd X 0 = gI X 0 := rd_nat X 0
    rw [if_pos (by omega), e0]
    cases d with
    | zero => rw [if_neg (by omega)]; rfl
    | succ d =>
      have e : gI X 0 + ((d + 1 : Nat) : Int) - 1 = gI X 0 + d := by omega
      rw [e, if_pos (by omega)]
      have h := box_at (x := gI X 0 + d) ht ho hy (by omega) (by omega)
      unfold swashplateref01_bound.f
      rw [if_pos (box2_points h), Option.bind_some]
      dsimp only
      rw [← h.hi_eq]
      unfold grR
      by_cases hc : hiAt X Y V b0 b1 (gI X 0 + d) ≤ limit
      · rw [if_pos hc]; exact if_pos hc
      · rw [if_neg hc, wr64 (by omega) (by omega), rgr_loop ht ho hy limit k d (by omega) (by omega)]
        exact if_neg hc
end
def greatR (X Y : List Int) (V : List (List Int)) (b0 b1 limit : Int) : Int × Int :=
  if tableB X Y V then (if okS b0 b1 then (if onB Y b0 b1 then grR (hiAt X Y V b0 b1) limit (gI X 0) (gI X (X.length - 1) + 1 - gI X 0).toNat else (0, 1)) else (0, 10)) else (0, 11)
theorem great_total (X Y : List Int) (V : List (List Int)) (b0 b1 limit : Int) (k : Nat) (hw : tableB X Y V = true → gI X (X.length - 1) - gI X 0 + 1 < k) : spans_Greatest.f k X Y V b0 b1 limit = some (greatR X Y V b0 b1 limit) := by
  unfold spans_Greatest.f greatR spans_CheckTable.f
  rw [Option.bind_some]
  cases ht : tableB X Y V with
  | false => rfl
  | true =>
    obtain ⟨⟨x0, x1⟩, y0, y1⟩ := tb_lens ht
    have hb := ax_bd (tb_axes ht).1
    have hw := hw ht
    have e0 : rd X 0 = gI X 0 := rd_nat X 0
    have e1 : wrap64 ((X.length : Int) - 1) = ((X.length - 1 : Nat) : Int) := by rw [wr64 (by omega) (by omega)]; omega
    rw [if_pos rfl, if_pos rfl, if_pos rfl, if_pos (by omega), e1, if_pos (by omega), if_pos (by omega), e0, rd_nat, cp_total, Option.bind_some]
    have eo : okS (gI X 0) (gI X 0) = true := by unfold okS; simp; omega
    have en : onB X (gI X 0) (gI X 0) = true := by rw [onB_iff]; omega
    unfold pointsE
    rw [ht, if_pos rfl, eo, en, Bool.true_and, Bool.true_and]
    cases ho : okS b0 b1 with
    | false => rfl
    | true =>
      cases hy : onB Y b0 b1 with
      | false => rfl
      | true =>
        rw [if_pos rfl, if_pos rfl, if_pos rfl, if_pos rfl, if_pos rfl]
        have := gr_loop ht ho hy limit k (gI X (X.length - 1) + 1 - gI X 0).toNat (by omega) (by omega)
        rw [show gI X 0 + ((gI X (X.length - 1) + 1 - gI X 0).toNat : Int) - 1 = gI X (X.length - 1) by omega] at this
        exact this
theorem rgreat_total (X Y : List Int) (V : List (List Int)) (hx : X.length ≤ 15) (hy : Y.length ≤ 15) (hv : V.length ≤ 15) (hr : ∀ r ∈ V, r.length ≤ 15) (b0 b1 limit : Int) (k : Nat) (hk : 700 < k) (hw : tableB X Y V = true → gI X (X.length - 1) - gI X 0 + 1 < k) :
    swashplateref01_Greatest.f k X Y V b0 b1 limit = some (greatR X Y V b0 b1 limit) := by
  unfold swashplateref01_Greatest.f greatR
  rw [rtable_total X Y V hx hy hv hr k hk, Option.bind_some]
  cases ht : tableB X Y V with
  | false => rfl
  | true =>
    obtain ⟨⟨x0, x1⟩, y0, y1⟩ := tb_lens ht
    have hb := ax_bd (tb_axes ht).1
    have hw := hw ht
    have e1 : wrap64 ((X.length : Int) - 1) = ((X.length - 1 : Nat) : Int) := by rw [wr64 (by omega) (by omega)]; omega
    rw [if_pos rfl, if_pos rfl, if_pos rfl, rvalid_total, Option.bind_some]
    cases ho : okS b0 b1 with
    | false => rfl
    | true =>
      rw [if_pos rfl, if_pos rfl, between_total y0 (by omega), Option.bind_some]
      cases hy : onB Y b0 b1 with
      | false => rfl
      | true =>
        rw [if_pos rfl, if_pos rfl, e1, if_pos (by omega), if_pos (by omega), rd_nat]
        have := rgr_loop ht ho hy limit k (gI X (X.length - 1) + 1 - gI X 0).toNat (by omega) (by omega)
        rw [show gI X 0 + ((gI X (X.length - 1) + 1 - gI X 0).toNat : Int) - 1 = gI X (X.length - 1) by omega] at this
        exact this
theorem great_mono (X Y : List Int) (V : List (List Int)) (b0 b1 limit limit' : Int) (hl : limit ≤ limit') (h0 : (greatR X Y V b0 b1 limit).2 = 0) : (greatR X Y V b0 b1 limit').2 = 0 ∧ (greatR X Y V b0 b1 limit).1 ≤ (greatR X Y V b0 b1 limit').1 := by
  unfold greatR at h0 ⊢
  cases ht : tableB X Y V with
  | false => rw [ht] at h0; simp at h0
  | true =>
    cases ho : okS b0 b1 with
    | false => rw [ht, ho] at h0; simp at h0
    | true =>
      cases hy : onB Y b0 b1 with
      | false => rw [ht, ho, hy] at h0; simp at h0
      | true =>
        rw [ht, ho, hy, if_pos rfl, if_pos rfl, if_pos rfl] at h0
        rw [if_pos rfl, if_pos rfl, if_pos rfl, if_pos rfl, if_pos rfl, if_pos rfl]
        exact gr_mono _ _ _ _ hl _ h0
theorem greatest_true (X Y : List Int) (V : List (List Int)) (b0 b1 l0 l1 : Int) : swashplatelaw01_SpansGreatest.f 4000 X Y V b0 b1 l0 l1 = some true := by
  have hj0 : ∀ b, swashplatelaw01_SpansGreatest.j0 4000 b X Y V b0 b1 l0 l1 = swashplatelaw01_SpansGreatest.j0 (3999 + 1) b X Y V b0 b1 l0 l1 := fun _ => rfl
  have hj1 : ∀ a e b, swashplatelaw01_SpansGreatest.j1 3999 a e b X Y V b0 b1 l0 l1 = swashplatelaw01_SpansGreatest.j1 (3998 + 1) a e b X Y V b0 b1 l0 l1 := fun _ _ _ => rfl
  have hj2 : ∀ a c e b, swashplatelaw01_SpansGreatest.j2 3998 a c e b = swashplatelaw01_SpansGreatest.j2 (3997 + 1) a c e b := fun _ _ _ _ => rfl
  have h0t : swashplatelaw01_SpansGreatest.j0 4000 true X Y V b0 b1 l0 l1 = some true := by
    rw [hj0]; simp only [swashplatelaw01_SpansGreatest.j0]; rw [if_pos trivial, works_at 3999 (by omega)]; rfl
  unfold swashplatelaw01_SpansGreatest.f
  rw [far_total X Y V 4000 (by omega), Option.bind_some]
  cases hf : farB X Y V with
  | true => rw [if_pos rfl]; exact h0t
  | false =>
    obtain ⟨hx, hy, hv, hr⟩ := far_false hf
    have main : (tableB X Y V = true → gI X (X.length - 1) - gI X 0 ≤ 3000) → swashplatelaw01_SpansGreatest.j0 4000 false X Y V b0 b1 l0 l1 = some true := by
      intro hw
      rw [hj0]
      simp only [swashplatelaw01_SpansGreatest.j0]
      rw [if_neg (by simp), copy_total X Y V hx hy hv hr 3999 (by omega), Option.bind_some]
      dsimp only
      rw [great_total X Y V b0 b1 l0 3999 (fun h => by have := hw h; omega), Option.bind_some, rgreat_total X Y V hx hy hv hr b0 b1 l0 3999 (by omega) (fun h => by have := hw h; omega), Option.bind_some, if_pos rfl, hj1]
      simp only [swashplatelaw01_SpansGreatest.j1]
      rw [if_neg (by simp), copy_total X Y V hx hy hv hr 3998 (by omega), Option.bind_some]
      dsimp only
      rw [great_total X Y V b0 b1 l1 3998 (fun h => by have := hw h; omega), Option.bind_some]
      have j2t : ∀ a c e, swashplatelaw01_SpansGreatest.j2 3998 a c e true = some true := by
        intro a c e; rw [hj2]; simp only [swashplatelaw01_SpansGreatest.j2]; rw [if_pos trivial, works_at 3997 (by omega)]; rfl
      by_cases hl : l1 < l0
      · rw [if_pos hl]; exact j2t _ _ _
      · rw [if_neg hl]
        by_cases he : (greatR X Y V b0 b1 l0).2 = 0
        · have hm := great_mono X Y V b0 b1 l0 l1 (by omega) he
          rw [show ((greatR X Y V b0 b1 l0).2 != 0) = false by rw [he]; rfl, hj2]
          simp only [swashplatelaw01_SpansGreatest.j2]
          rw [if_neg (by simp), if_pos hm.1, if_pos hm.2, works_at 3997 (by omega)]
          rfl
        · rw [show ((greatR X Y V b0 b1 l0).2 != 0) = true by simpa using he]
          exact j2t _ _ _
    rw [if_neg (by simp), rtable_total X Y V hx hy hv hr 4000 (by omega), Option.bind_some]
    cases ht : tableB X Y V with
    | false => rw [if_neg (by decide)]; exact main (fun h => by rw [ht] at h; cases h)
    | true =>
      obtain ⟨⟨x0, x1⟩, y0, y1⟩ := tb_lens ht
      have hb := ax_bd (tb_axes ht).1
      have e0 : rd X 0 = gI X 0 := rd_nat X 0
      have e1 : wrap64 ((X.length : Int) - 1) = ((X.length - 1 : Nat) : Int) := by rw [wr64 (by omega) (by omega)]; omega
      rw [if_pos (by rfl), e1, if_pos (by omega), if_pos (by omega), if_pos (by omega), rd_nat, e0, wr64 (by omega) (by omega)]
      by_cases hg : gI X (X.length - 1) - gI X 0 > 3000
      · rw [decide_eq_true hg]; exact h0t
      · rw [decide_eq_false hg]; exact main (fun _ => by omega)
end Go.Proofs.Yteodlmgmmpkpoaa.PS
end
section
namespace Go.Proofs.Yteodlmgmmpkpoaa.PS
open Go.RowKit Go.Deep Go.ChangeShapes Go.WideShapes Go.ChangeAt Go.Proofs.YteodlmgmmpkpoaaW.PrintWords
set_option linter.unusedVariables false
set_option maxRecDepth 100000 in
theorem liftedGreatest (os : Os) (started : os.Started) (H : Type) (enc : TypeId × Value → H) :
    ReturnsInHanded {} Try.checked os 3 .any (Rows.spansGreatestSpec.pre6 enc Try.prog Try.f3 Rows.spansGreatestRow.domain false) (Rows.spansGreatestSpec.post enc Try.prog Try.f3 false true false false) := by
  refine returnsInHanded_of_change (C := Try.checked) ownNone started (by kernel_rfl) Try.func3
    (ChangeSpec.witness6 (enc := enc) (C := Try.checked) false ⟨#[], #[.agg #[.slice none 0 0, .slice none 0 0, .slice none 0 0], .agg #[.int .i64 0, .int .i64 0], .agg #[.int .i64 0, .int .i64 0]], []⟩ 8 (by kernel_rfl) (by kernel_rfl) (by kernel_rfl) (by kernel_rfl)) ?_
  intro W base args ds gs before hval0 hW hcnd _
  have hval : ∀ (j : Nat) t v, Try.f3.params[j]? = some t → args[j]? = some v → Value.okWide Try.prog W .any base t v := hval0
  have hW' := hW
  obtain ⟨p, q, hA0, hV, rfl, hfz, hnd⟩ := hW
  have hA : DataW.TrodAll enc Try.prog W 0 (fun _ => true) true Try.f3.params.toList args.toList ds p := hA0
  rw [Try.params3] at hA hval
  obtain ⟨v0, vs0, d0, ds0, p0, q0, hargs, rfl, rfl, h0, r0⟩ := trodAll_cons hA
  obtain ⟨v1, vs1, d1, ds1, p1, q1, rfl, rfl, rfl, h1, r1⟩ := trodAll_cons r0
  obtain ⟨v2, vs2, d2, ds2, p2, q2, rfl, rfl, rfl, h2, r2⟩ := trodAll_cons r1
  obtain ⟨rfl, rfl, rfl⟩ := trodAll_nil r2
  obtain rfl : args = #[v0, v1, v2] := by cases args; simp_all
  obtain ⟨rfl, rfl⟩ := trodVars_none hV
  have k0 := h0
  have lt0 : ∀ x ∈ p0, x.block < W.heap.size := by obtain ⟨m, hm⟩ := k0; exact DataW.trod_lt m _ _ _ hm
  have k1 := h1
  have lt1 : ∀ x ∈ p1, x.block < W.heap.size := by obtain ⟨m, hm⟩ := k1; exact DataW.trod_lt m _ _ _ hm
  have k2 := h2
  have lt2 : ∀ x ∈ p2, x.block < W.heap.size := by obtain ⟨m, hm⟩ := k2; exact DataW.trod_lt m _ _ _ hm
  obtain ⟨A00, c00, X0, A01, c01, Y0, A02, c02, V0, rfl, t01, t02, t03, t04, t05, t06, _, _, _⟩ := arg25 (hval 0 25 v0 rfl rfl) h0
  obtain ⟨x10, x11, rfl, _, _⟩ := arg27 (hval 1 27 v1 rfl rfl) h1
  obtain ⟨x20, x21, rfl, _, _⟩ := arg28 (hval 2 28 v2 rfl rfl) h2
  clear hA0 hval0
  refine (swashplatelaw01_SpansGreatest.calls 4000 A00 c00 X0 A01 c01 Y0 A02 c02 V0 x10 x11 x20 x21 true W t02 t01 t04 t03 t06 t05 (greatest_true X0 Y0 V0 x10 x11 x20 x21) ⟨rfl⟩).mono fun e W' ⟨he, bel⟩ => ?_
  subst he
  exact ⟨_, rfl, _, _, _, [], _, [], hW', trodAll_mk1 (shut_bool Try.underlying4 _), (trodAll_cons_mk (Below.trod laidOut (by kernel_rfl) (of_decide_eq_true (by kernel_rfl)) k0 bel lt0) (trodAll_cons_mk (Below.trod laidOut (by kernel_rfl) (of_decide_eq_true (by kernel_rfl)) k1 bel lt1) (trodAll_cons_mk (Below.trod laidOut (by kernel_rfl) (of_decide_eq_true (by kernel_rfl)) k2 bel lt2) trodAll_mk0))), rfl, bel.frame _, fun h => by cases h⟩
theorem factsGreatest : joinedFacts Try.prog 3 Try.f3 Rows.spansGreatestSpec Rows.spansGreatestRow = true := by
  have fk : (Rows.spansGreatestRow.plainKeys == Try.prog.plainKeys) = true := factKeys
  have fl : (Rows.spansGreatestRow.lifted == Try.prog.liftsFinal) = true := factLifted
  have fm : (Try.prog.make == some Rows.spansGreatestRow.make) = true := factMake
  unfold joinedFacts
  repeat' (with_reducible refine Bool.and_eq_true_iff.2 ⟨?_, ?_⟩)
  all_goals first | (with_reducible exact fk) | (with_reducible exact factHeard) | (with_reducible exact factEnter) | (with_reducible exact fl) | (with_reducible exact fm) | kernel_rfl
theorem overGreatest : Rows.spansGreatestRow.holds Try.pinned (OpenSpec.ofChange Rows.spansGreatestSpec) :=
  OpenClaim.holds_of_wide 3 Try.f3 rfl rfl rfl rfl rfl rfl rfl ⟨rfl, rfl, rfl, rfl, rfl⟩ rfl rfl rfl rfl rfl (by kernel_rfl) Try.func3 factsGreatest
    (of_decide_eq_true (by kernel_rfl)) (by unfold Func.isWrapper; first | (rw [if_pos (by decide +kernel)]; kernel_rfl) | (rw [if_neg (by decide +kernel)]; exact ⟨rfl, rfl⟩))
    (fun os started H enc _ => liftedGreatest os started H enc)
theorem greatestProved : Rows.SpansGreatestSaid := overGreatest
#print axioms greatestProved
end Go.Proofs.Yteodlmgmmpkpoaa.PS
end
