-- Printed by a program of this session out of the translation (hybrid print) and out of hand proofs. Not trusted: Lean checks it.
import Derived.Test.YteodlmgmmpkpoaaN0
section
namespace Go.Proofs.Yteodlmgmmpkpoaa.PS
set_option linter.unusedVariables false
def flP (p : Pt) : Int := p.n / p.d
def ceP (p : Pt) : Int := -((-p.n) / p.d)
def ptsR (X Y : List Int) (V : List (List Int)) (a0 a1 b0 b1 : Int) : List Pt := gridL (stopsL X a0 a1) (stopsL Y b0 b1) (ptRef X Y V)
def foldLo (l : List Pt) (a : Int) : Int := l.foldl (fun m q => min m (flP q)) a
def foldHi (l : List Pt) (a : Int) : Int := l.foldl (fun m q => max m (ceP q)) a
def headP : List Pt → Pt
  | [] => ⟨0, 0, 0, 0⟩
  | p :: _ => p
def swashplateref01_bound.f (X Y : List Int) (V : List (List Int)) (a0 a1 b0 b1 : Int) : Option (Int × Int) :=
  if pointsB X Y V a0 a1 b0 b1 = true then
    some (foldLo (ptsR X Y V a0 a1 b0 b1) (flP (headP (ptsR X Y V a0 a1 b0 b1))), foldHi (ptsR X Y V a0 a1 b0 b1) (ceP (headP (ptsR X Y V a0 a1 b0 b1))))
  else none
end Go.Proofs.Yteodlmgmmpkpoaa.PS
end
section
namespace Go.Proofs.Yteodlmgmmpkpoaa.PS
open Go.RowKit Go.Proofs.YteodlmgmmpkpoaaW.PrintWords Go.Proofs.YteodlmgmmpkpoaaW.PrintLast Go.Proofs.YteodlmgmmpkpoaaW.PrintMore
attribute [local go_sem] max2_int min2_int max_two min_two max_three min_three max_four min_four   -- for this text's walks alone
set_option linter.unusedVariables false
set_option linter.unusedSimpArgs false
def swashplateref01_floor.f (a0 : Int) (a1 : Int) : Option (Int) := if a0 ≥ 0 then (if a1 = 0 then (none) else (some (wrap64 (Int.tdiv a0 a1)))) else (if a1 = 0 then (none) else (some (wrap64 (-(wrap64 (Int.tdiv (wrap64 ((wrap64 ((wrap64 (-a0)) + a1)) - 1)) a1))))))
set_option maxHeartbeats 8000000 in
set_option maxRecDepth 100000 in
theorem swashplateref01_floor.calls (a0 : Int) (a1 : Int) (r : Int) (w : World) (h : swashplateref01_floor.f a0 a1 = some r) :
  Calls Try.prog 107 #[.int .i64 a0, .int .i64 a1] w fun e w' => e = .returned (.int .i64 r) ∧ Drawn0 w w' := by
 have H : (if a0 ≥ 0 then (if a1 = 0 then (none) else (some (wrap64 (Int.tdiv a0 a1)))) else (if a1 = 0 then (none) else (some (wrap64 (-(wrap64 (Int.tdiv (wrap64 ((wrap64 ((wrap64 (-a0)) + a1)) - 1)) a1))))))) = some r := h
 clear h
 by_cases c3 : a0 ≥ 0
 ·
  rw [if_pos c3] at H
  have c3b0 : decide (0 ≤ a0) = true := decide_eq_true c3
  clear c3
  by_cases c4 : a1 = 0
  ·
   rw [if_pos c4] at H
   exact absurd H (by simp)
  ·
   rw [if_neg c4] at H
   have c4b0 : (a1 == 0) = false := beq_eq_false_iff_ne.mpr c4
   have c4b1 : (a1 != 0) = true := bne_iff_ne.mpr c4
   obtain rfl := Option.some.inj H
   go_enter Try.func107, Try.ntmps107
   go_wp2
   go_ret
   exact ⟨by first | rfl | (simp; done) | (simp [*]; done), by repeat (first | exact Drawn0.refl _ | apply Drawn0.step)⟩
 ·
  rw [if_neg c3] at H
  have c3b0 : decide (0 ≤ a0) = false := decide_eq_false c3
  clear c3
  by_cases c5 : a1 = 0
  ·
   rw [if_pos c5] at H
   exact absurd H (by simp)
  ·
   rw [if_neg c5] at H
   have c5b0 : (a1 == 0) = false := beq_eq_false_iff_ne.mpr c5
   have c5b1 : (a1 != 0) = true := bne_iff_ne.mpr c5
   obtain rfl := Option.some.inj H
   go_enter Try.func107, Try.ntmps107
   go_wp2
   go_ret
   exact ⟨by first | rfl | (simp; done) | (simp [*]; done), by repeat (first | exact Drawn0.refl _ | apply Drawn0.step)⟩
end Go.Proofs.Yteodlmgmmpkpoaa.PS
end
section
namespace Go.Proofs.Yteodlmgmmpkpoaa.PS
open Go.RowKit Go.Proofs.YteodlmgmmpkpoaaW.PrintWords Go.Proofs.YteodlmgmmpkpoaaW.PrintLast Go.Proofs.YteodlmgmmpkpoaaW.PrintMore
attribute [local go_sem] max2_int min2_int max_two min_two max_three min_three max_four min_four   -- for this text's walks alone
set_option linter.unusedVariables false
set_option linter.unusedSimpArgs false
def swashplateref01_ceil.f (a0 : Int) (a1 : Int) : Option (Int) := (swashplateref01_floor.f (wrap64 (-a0)) a1).bind fun t181 => (some (wrap64 (-t181)))
set_option maxHeartbeats 8000000 in
set_option maxRecDepth 100000 in
theorem swashplateref01_ceil.calls (a0 : Int) (a1 : Int) (r : Int) (w : World) (h : swashplateref01_ceil.f a0 a1 = some r) :
  Calls Try.prog 108 #[.int .i64 a0, .int .i64 a1] w fun e w' => e = .returned (.int .i64 r) ∧ Drawn0 w w' := by
 have H : ((swashplateref01_floor.f (wrap64 (-a0)) a1).bind fun t181 => (some (wrap64 (-t181)))) = some r := h
 clear h
 replace H := Option.bind_eq_some_iff.mp H
 obtain ⟨t181, A30, H⟩ := H
 replace H : (some (wrap64 (-t181))) = some r := H
 have A3 := Aside0.mk A30
 clear A30
 obtain rfl := Option.some.inj H
 go_enter Try.func108, Try.ntmps108
 go_wp2_with (first | ((with_reducible refine gate_callee (f := 107) rfl ?_); refine goesL_ (some 8) rfl rfl Try.func107 (by kernel_rfl) rfl #[.int .i64 (wrap64 (-a0)), .int .i64 a1] rfl (by (try simp only [List.map_toArray, List.map_cons, List.map_nil]); first | done | rfl | (simp only [List.length_drop, List.length_take]; rfl)) ?_; (with_reducible refine (swashplateref01_floor.calls (wrap64 (-a0)) a1 t181 _ A3.out).mono ?_); rintro e w' ⟨rfl, ⟨nd, rfl⟩⟩; refine ⟨_, rfl, ?_⟩))
 go_ret
 exact ⟨by first | rfl | (simp; done) | (simp [*]; done), by repeat (first | exact Drawn0.refl _ | apply Drawn0.step)⟩
end Go.Proofs.Yteodlmgmmpkpoaa.PS
end
section
namespace Go.Proofs.Yteodlmgmmpkpoaa.PS
open Go.RowKit Go.Proofs.YteodlmgmmpkpoaaW.PrintWords Go.Proofs.YteodlmgmmpkpoaaW.PrintLast Go.Proofs.YteodlmgmmpkpoaaW.PrintMore
attribute [local go_sem] max2_int min2_int max_two min_two max_three min_three max_four min_four   -- for this text's walks alone
set_option linter.unusedVariables false
set_option linter.unusedSimpArgs false
def swashplateref01_less.f (a0 : Int) (a1 : Int) (a2 : Int) (a3 : Int) : Option (Bool) := (swashplateref01_floor.f a0 a1).bind fun t467 => ((swashplateref01_floor.f a2 a3).bind fun t468 => (if t467 = t468 then (some (decide ((wrap64 ((wrap64 (a0 - (wrap64 (t467 * a1)))) * a3)) < (wrap64 ((wrap64 (a2 - (wrap64 (t468 * a3)))) * a1))))) else (some (decide (t467 < t468)))))
set_option maxHeartbeats 8000000 in
set_option maxRecDepth 100000 in
theorem swashplateref01_less.calls (a0 : Int) (a1 : Int) (a2 : Int) (a3 : Int) (r : Bool) (w : World) (h : swashplateref01_less.f a0 a1 a2 a3 = some r) :
  Calls Try.prog 103 #[.int .i64 a0, .int .i64 a1, .int .i64 a2, .int .i64 a3] w fun e w' => e = .returned (.bool r) ∧ Drawn0 w w' := by
 have H : ((swashplateref01_floor.f a0 a1).bind fun t467 => ((swashplateref01_floor.f a2 a3).bind fun t468 => (if t467 = t468 then (some (decide ((wrap64 ((wrap64 (a0 - (wrap64 (t467 * a1)))) * a3)) < (wrap64 ((wrap64 (a2 - (wrap64 (t468 * a3)))) * a1))))) else (some (decide (t467 < t468)))))) = some r := h
 clear h
 replace H := Option.bind_eq_some_iff.mp H
 obtain ⟨t467, A50, H⟩ := H
 replace H : ((swashplateref01_floor.f a2 a3).bind fun t468 => (if t467 = t468 then (some (decide ((wrap64 ((wrap64 (a0 - (wrap64 (t467 * a1)))) * a3)) < (wrap64 ((wrap64 (a2 - (wrap64 (t468 * a3)))) * a1))))) else (some (decide (t467 < t468))))) = some r := H
 have A5 := Aside0.mk A50
 clear A50
 replace H := Option.bind_eq_some_iff.mp H
 obtain ⟨t468, A60, H⟩ := H
 replace H : (if t467 = t468 then (some (decide ((wrap64 ((wrap64 (a0 - (wrap64 (t467 * a1)))) * a3)) < (wrap64 ((wrap64 (a2 - (wrap64 (t468 * a3)))) * a1))))) else (some (decide (t467 < t468)))) = some r := H
 have A6 := Aside0.mk A60
 clear A60
 by_cases c7 : t467 = t468
 ·
  rw [if_pos c7] at H
  have c7b0 : (t467 == t468) = true := beq_iff_eq.mpr c7
  have c7b1 : (t467 != t468) = false := bne_eq_false_iff_eq.mpr c7
  clear c7
  obtain rfl := Option.some.inj H
  go_enter Try.func103, Try.ntmps103
  go_wp2_with (first | ((with_reducible refine gate_callee (f := 107) rfl ?_); refine goesL_ (some 13) rfl rfl Try.func107 (by kernel_rfl) rfl #[.int .i64 a0, .int .i64 a1] rfl (by (try simp only [List.map_toArray, List.map_cons, List.map_nil]); first | done | rfl | (simp only [List.length_drop, List.length_take]; rfl)) ?_; (with_reducible refine (swashplateref01_floor.calls a0 a1 t467 _ A5.out).mono ?_); rintro e w' ⟨rfl, ⟨nd, rfl⟩⟩; refine ⟨_, rfl, ?_⟩) | ((with_reducible refine gate_callee (f := 107) rfl ?_); refine goesL_ (some 16) rfl rfl Try.func107 (by kernel_rfl) rfl #[.int .i64 a2, .int .i64 a3] rfl (by (try simp only [List.map_toArray, List.map_cons, List.map_nil]); first | done | rfl | (simp only [List.length_drop, List.length_take]; rfl)) ?_; (with_reducible refine (swashplateref01_floor.calls a2 a3 t468 _ A6.out).mono ?_); rintro e w' ⟨rfl, ⟨nd, rfl⟩⟩; refine ⟨_, rfl, ?_⟩))
  go_ret
  exact ⟨by first | rfl | (simp; done) | (simp [*]; done), by repeat (first | exact Drawn0.refl _ | apply Drawn0.step)⟩
 ·
  rw [if_neg c7] at H
  have c7b0 : (t467 == t468) = false := beq_eq_false_iff_ne.mpr c7
  have c7b1 : (t467 != t468) = true := bne_iff_ne.mpr c7
  obtain rfl := Option.some.inj H
  go_enter Try.func103, Try.ntmps103
  go_wp2_with (first | ((with_reducible refine gate_callee (f := 107) rfl ?_); refine goesL_ (some 13) rfl rfl Try.func107 (by kernel_rfl) rfl #[.int .i64 a0, .int .i64 a1] rfl (by (try simp only [List.map_toArray, List.map_cons, List.map_nil]); first | done | rfl | (simp only [List.length_drop, List.length_take]; rfl)) ?_; (with_reducible refine (swashplateref01_floor.calls a0 a1 t467 _ A5.out).mono ?_); rintro e w' ⟨rfl, ⟨nd, rfl⟩⟩; refine ⟨_, rfl, ?_⟩) | ((with_reducible refine gate_callee (f := 107) rfl ?_); refine goesL_ (some 16) rfl rfl Try.func107 (by kernel_rfl) rfl #[.int .i64 a2, .int .i64 a3] rfl (by (try simp only [List.map_toArray, List.map_cons, List.map_nil]); first | done | rfl | (simp only [List.length_drop, List.length_take]; rfl)) ?_; (with_reducible refine (swashplateref01_floor.calls a2 a3 t468 _ A6.out).mono ?_); rintro e w' ⟨rfl, ⟨nd, rfl⟩⟩; refine ⟨_, rfl, ?_⟩))
  go_ret
  exact ⟨by first | rfl | (simp; done) | (simp [*]; done), by repeat (first | exact Drawn0.refl _ | apply Drawn0.step)⟩
end Go.Proofs.Yteodlmgmmpkpoaa.PS
end
section
namespace Go.Proofs.Yteodlmgmmpkpoaa.PS
open Go.RowKit Go.Proofs.YteodlmgmmpkpoaaW.PrintWords Go.Proofs.YteodlmgmmpkpoaaW.PrintLast Go.Proofs.YteodlmgmmpkpoaaW.PrintMore
set_option linter.unusedVariables false
theorem ceil_total (a b : Int) (hb : 0 < b) (h0 : -4000000000000000000 ≤ a) (h1 : a ≤ 4000000000000000000) : spans_ceil.f a b = some (-((-a) / b)) := by
  unfold spans_ceil.f
  rw [wr64 (by omega) (by omega), floor_total _ _ hb (by omega) (by omega), Option.bind_some]
  have hq := ediv_bd (a := -a) hb (B := 4000000000000000000) (by omega) (by omega) (by decide)
  rw [wr64 (by omega) (by omega)]
theorem up_total (a b : Int) (hb : 0 < b) (h0 : -4000000000000000000 ≤ a) (h1 : a ≤ 4000000000000000000) : spans_value_up.f a b = some (-((-a) / b)) := by
  unfold spans_value_up.f
  rw [ceil_total _ _ hb h0 h1]
  rfl
theorem rfloor_total (a b : Int) (hb : 0 < b) (hb1 : b ≤ 1000000000000) (h0 : -4000000000000000000 ≤ a) (h1 : a ≤ 4000000000000000000) : swashplateref01_floor.f a b = some (a / b) := by
  unfold swashplateref01_floor.f
  have hq := ediv_bd hb h0 h1 (by decide)
  by_cases ha : a ≥ 0
  · rw [if_pos ha, if_neg (by omega), Int.tdiv_eq_ediv_of_nonneg ha, wr64 (by omega) (by omega)]
  · rw [if_neg ha]
    have e1 : wrap64 (wrap64 (wrap64 (-a) + b) - 1) = -a + b - 1 := by
      rw [show wrap64 (-a) = -a from wr64 (by omega) (by omega), show wrap64 (-a + b) = -a + b from wr64 (by omega) (by omega), wr64 (by omega) (by omega)]
    rw [e1, if_neg (by omega), Int.tdiv_eq_ediv_of_nonneg (by omega)]
    have e2 : (-a + b - 1) / b = -(a / b) := by
      rw [Int.ediv_eq_iff_of_pos hb]
      have := Int.mul_ediv_add_emod a b
      have hm0 := Int.emod_nonneg a (show b ≠ 0 by omega)
      have hm1 := Int.emod_lt_of_pos a hb
      have e3 : -(a / b) * b = -(b * (a / b)) := by rw [Int.neg_mul, Int.mul_comm]
      rw [e3]
      omega
    rw [e2, show wrap64 (-(a / b)) = -(a / b) from wr64 (by omega) (by omega), Int.neg_neg, wr64 (by omega) (by omega)]
theorem rceil_total (a b : Int) (hb : 0 < b) (hb1 : b ≤ 1000000000000) (h0 : -4000000000000000000 ≤ a) (h1 : a ≤ 4000000000000000000) : swashplateref01_ceil.f a b = some (-((-a) / b)) := by
  unfold swashplateref01_ceil.f
  rw [wr64 (by omega) (by omega), rfloor_total _ _ hb hb1 (by omega) (by omega), Option.bind_some]
  have hq := ediv_bd (a := -a) hb (B := 4000000000000000000) (by omega) (by omega) (by decide)
  rw [wr64 (by omega) (by omega)]
theorem rcorners_loop (l : List Int) (hl : l.length ≤ 12) (lo hi : Int) : ∀ (d k i : Nat) (acc : List Int), l.length - i = d → i ≤ l.length → d < k → acc.length ≤ 1 + i →
    swashplateref01_corners.l0 k l acc i lo hi = some ((acc ++ (l.drop i).filter (fun x => decide (lo < x) && decide (x < hi))) ++ (if lo < hi then [hi] else []))
  | d, k, i, acc, hd, hi', hk, ha => by
    obtain ⟨k, rfl⟩ : ∃ m, k = m + 1 := ⟨k - 1, by omega⟩
    simp only [swashplateref01_corners.l0]
    by_cases hlt : i < l.length
    · obtain ⟨d, rfl⟩ : ∃ m, d = m + 1 := ⟨d - 1, by omega⟩
      rw [if_pos (by omega), if_pos (by omega), rd_nat, drop_step l i hlt, List.filter_cons]
      have e1 : wrap64 ((i : Int) + 1) = ((i + 1 : Nat) : Int) := by rw [wr64 (by omega) (by omega)]; rfl
      rw [e1]
      by_cases h1 : gI l i > lo
      · rw [if_pos h1]
        by_cases h2 : gI l i < hi
        · rw [if_pos h2, if_pos (by omega)]
          rw [rcorners_loop l hl lo hi d k (i + 1) _ (by omega) (by omega) (by omega) (by simp; omega)]
          simp [h1, h2]
        · rw [if_neg h2]
          rw [rcorners_loop l hl lo hi d k (i + 1) _ (by omega) (by omega) (by omega) (by omega)]
          simp [h2]
      · rw [if_neg h1]
        rw [rcorners_loop l hl lo hi d k (i + 1) _ (by omega) (by omega) (by omega) (by omega)]
        have : ¬ lo < gI l i := by omega
        simp [this]
    · rw [if_neg (by omega), List.drop_of_length_le (by omega)]
      by_cases h1 : hi > lo
      · rw [if_pos h1, if_pos (by omega), if_pos (by omega)]; simp
      · rw [if_neg h1, if_neg (by omega)]; simp
theorem rcorners_total (l : List Int) (hl : l.length ≤ 12) (lo hi : Int) (k : Nat) (hk : 12 < k) : swashplateref01_corners.f k l lo hi = some (stopsL l lo hi) := by
  unfold swashplateref01_corners.f stopsL
  have := rcorners_loop l hl lo hi (l.length - 0) k 0 [lo] rfl (Nat.zero_le _) (by omega) (by simp)
  rw [show ((0 : Nat) : Int) = 0 from rfl] at this
  rw [this, List.drop_zero]
  rfl
theorem rless_total {p q : Pt} (hp : GoodP p) (hq : GoodP q) : swashplateref01_less.f p.n p.d q.n q.d = some (ltP p q) := by
  obtain ⟨p1, p2, p3, p4⟩ := good_floor hp
  obtain ⟨q1, q2, q3, q4⟩ := good_floor hq
  obtain ⟨l1, l2⟩ := frac_lt hp hq
  obtain ⟨m1, m2⟩ := frac_lt hq hp
  obtain ⟨hpd, hpd1, hp3, hp4⟩ := hp
  obtain ⟨hqd, hqd1, hq3, hq4⟩ := hq
  unfold swashplateref01_less.f ltP
  rw [rfloor_total _ _ hpd (by omega) (by omega) (by omega), Option.bind_some, rfloor_total _ _ hqd (by omega) (by omega) (by omega), Option.bind_some]
  have b1 := mul_bd (a := p.n - p.n / p.d * p.d) (b := q.d) p3 (show _ ≤ 100000000 by omega) (by omega) hqd1
  have b2 := mul_bd (a := q.n - q.n / q.d * q.d) (b := p.d) q3 (show _ ≤ 100000000 by omega) (by omega) hpd1
  have b3 : -(1000001 * 100000000) ≤ p.n / p.d * p.d ∧ p.n / p.d * p.d ≤ 1000001 * 100000000 := by omega
  have b4 : -(1000001 * 100000000) ≤ q.n / q.d * q.d ∧ q.n / q.d * q.d ≤ 1000001 * 100000000 := by omega
  rw [show wrap64 (p.n / p.d * p.d) = p.n / p.d * p.d from wr64 (by omega) (by omega), show wrap64 (q.n / q.d * q.d) = q.n / q.d * q.d from wr64 (by omega) (by omega),
    show wrap64 (p.n - p.n / p.d * p.d) = p.n - p.n / p.d * p.d from wr64 (by omega) (by omega), show wrap64 (q.n - q.n / q.d * q.d) = q.n - q.n / q.d * q.d from wr64 (by omega) (by omega),
    show wrap64 ((p.n - p.n / p.d * p.d) * q.d) = (p.n - p.n / p.d * p.d) * q.d from wr64 (by omega) (by omega), show wrap64 ((q.n - q.n / q.d * q.d) * p.d) = (q.n - q.n / q.d * q.d) * p.d from wr64 (by omega) (by omega)]
  by_cases he : p.n / p.d = q.n / q.d
  · rw [if_pos he]
    congr 1
    rw [decide_eq_decide]
    exact (l2 he).symm
  · rw [if_neg he]
    congr 1
    rw [decide_eq_decide]
    rcases Int.lt_or_gt_of_ne he with h | h
    · have := l1 h; omega
    · have := m1 h; omega
end Go.Proofs.Yteodlmgmmpkpoaa.PS
end
section
namespace Go.Proofs.Yteodlmgmmpkpoaa.PS
open Go.RowKit Go.Deep Go.ChangeShapes Go.WideShapes Go.ChangeAt Go.Proofs.YteodlmgmmpkpoaaW.PrintWords
set_option linter.unusedVariables false
section
variable {H : Type} {enc : TypeId × Value → H} {w : World} {base : Nat} {held : Bool} {v : Value} {d : DataW H} {ps : List MemPlace} {r : Reach} {b0 : Nat}
set_option maxRecDepth 100000 in
theorem area_cells {n : Nat} {cs : List Value} {x : DataW H × List MemPlace} (h : DataW.trod enc Try.prog w base (fun _ => true) held n 43 cs = some x) : ∃ a b c e : Int, cs = [.int .i64 a, .int .i64 b, .int .i64 c, .int .i64 e] := by
  obtain ⟨y0, y1, n, _, hl, h0, h1⟩ := trod_struct2 Try.underlying43 h
  have e2 : Try.prog.cellsOf 27 = 2 := by kernel_rfl
  have e4 : Try.prog.cellsOf 43 = 4 := by kernel_rfl
  rw [e4] at hl
  match cs, hl with
  | [c0, c1, c2, c3], _ =>
    simp only [e2, List.drop_zero, List.drop_succ_cons, List.take_succ_cons, List.take_zero] at h0 h1
    obtain ⟨s, hs, _⟩ := opn27.2 H enc w base held n _ _ h0
    obtain ⟨t, ht, _⟩ := opn27.2 H enc w base held n _ _ h1
    have e := k27_open hs
    have e' := k27_open ht
    simp only [List.cons.injEq, and_true] at e e'
    obtain ⟨rfl, rfl⟩ := e
    obtain ⟨rfl, rfl⟩ := e'
    exact ⟨_, _, _, _, rfl⟩
set_option maxRecDepth 100000 in
theorem arg43 (hv : Value.okWide Try.prog w r b0 43 v) (h : DataW.Trod enc Try.prog w base (fun _ => true) held 43 v d ps) :
    ∃ a b c e : Int, v = .agg #[.int .i64 a, .int .i64 b, .int .i64 c, .int .i64 e] := by
  obtain ⟨cs, rfl, hsz⟩ := okWide_struct Try.underlying43 hv
  obtain ⟨fuel, hf⟩ := h
  obtain ⟨a, b, c, e, hc⟩ := area_cells hf
  simp only [Value.cells] at hc
  exact ⟨a, b, c, e, by rw [← Array.toArray_toList (xs := cs), hc]⟩
end
end Go.Proofs.Yteodlmgmmpkpoaa.PS
end
section
namespace Go.Proofs.Yteodlmgmmpkpoaa.PS
set_option linter.unusedVariables false
theorem spots_meet {l : List Int} (h : Ax l) {x : Int} {i j : Nat} (a : Spot l x i) (b : Spot l x j) : i = j ∨ (j = i + 1 ∧ x = gI l j) ∨ (i = j + 1 ∧ x = gI l i) := by
  have a1 := a.lo; have a2 := a.hi; have a3 := a.lt
  have b1 := b.lo; have b2 := b.hi; have b3 := b.lt
  rcases Nat.lt_trichotomy i j with hlt | heq | hgt
  · right; left
    by_cases he : j = i + 1
    · subst he; exact ⟨rfl, by omega⟩
    · have := h.asc (i + 1) j (by omega) (by omega); omega
  · exact .inl heq
  · right; right
    by_cases he : i = j + 1
    · subst he; exact ⟨rfl, by omega⟩
    · have := h.asc (j + 1) i (by omega) (by omega); omega
theorem line_eq {l : List Int} (h : Ax l) {x : Int} {i j : Nat} (a : Spot l x i) (b : Spot l x j) (f : Nat → Int) :
    ((gI l (i + 1) - x) * f i + (x - gI l i) * f (i + 1)) * (gI l (j + 1) - gI l j) = ((gI l (j + 1) - x) * f j + (x - gI l j) * f (j + 1)) * (gI l (i + 1) - gI l i) := by
  rcases spots_meet h a b with rfl | ⟨rfl, hx⟩ | ⟨rfl, hx⟩
  · rfl
  · rw [hx]; simp only [Int.sub_self, Int.zero_mul, Int.zero_add, Int.add_zero]; grind
  · rw [hx]; simp only [Int.sub_self, Int.zero_mul, Int.zero_add, Int.add_zero]; grind
theorem numAt_x (X Y : List Int) (V : List (List Int)) (i k : Nat) (x y : Int) :
    numAt X Y V i k x y = (gI X (i + 1) - x) * ((gI Y (k + 1) - y) * gV V i k + (y - gI Y k) * gV V i (k + 1)) + (x - gI X i) * ((gI Y (k + 1) - y) * gV V (i + 1) k + (y - gI Y k) * gV V (i + 1) (k + 1)) := by
  unfold numAt; grind
theorem numAt_y (X Y : List Int) (V : List (List Int)) (i k : Nat) (x y : Int) :
    numAt X Y V i k x y = (gI Y (k + 1) - y) * ((gI X (i + 1) - x) * gV V i k + (x - gI X i) * gV V (i + 1) k) + (y - gI Y k) * ((gI X (i + 1) - x) * gV V i (k + 1) + (x - gI X i) * gV V (i + 1) (k + 1)) := by
  unfold numAt; grind
theorem frac_eq {X Y : List Int} {V : List (List Int)} (hx : Ax X) (hy : Ax Y) {x y : Int} {i i' k k' : Nat} (a : Spot X x i) (a' : Spot X x i') (b : Spot Y y k) (b' : Spot Y y k') :
    numAt X Y V i k x y * denAt X Y i' k' = numAt X Y V i' k' x y * denAt X Y i k := by
  have e1 := line_eq hx a a' (fun m => (gI Y (k + 1) - y) * gV V m k + (y - gI Y k) * gV V m (k + 1))
  have e2 := line_eq hy b b' (fun m => (gI X (i' + 1) - x) * gV V i' m + (x - gI X i') * gV V (i' + 1) m)
  rw [← numAt_x X Y V i k x y, ← numAt_x X Y V i' k x y] at e1
  rw [← numAt_y X Y V i' k x y, ← numAt_y X Y V i' k' x y] at e2
  unfold denAt
  generalize numAt X Y V i k x y = n1 at *
  generalize numAt X Y V i' k x y = n2 at *
  generalize numAt X Y V i' k' x y = n3 at *
  generalize gI X (i + 1) - gI X i = p at *
  generalize gI X (i' + 1) - gI X i' = p' at *
  generalize gI Y (k + 1) - gI Y k = q at *
  generalize gI Y (k' + 1) - gI Y k' = q' at *
  calc n1 * (p' * q') = (n1 * p') * q' := by rw [Int.mul_assoc]
    _ = (n2 * p) * q' := by rw [e1]
    _ = (n2 * q') * p := by rw [Int.mul_assoc, Int.mul_comm p q', ← Int.mul_assoc]
    _ = (n3 * q) * p := by rw [e2]
    _ = n3 * (p * q) := by rw [Int.mul_assoc, Int.mul_comm q p]
theorem div_eq {n d n' d' : Int} (hd : 0 < d) (hd' : 0 < d') (h : n * d' = n' * d) : n / d = n' / d' := by
  rw [← Int.mul_ediv_mul_of_pos_left n d hd', h, Int.mul_comm d d', Int.mul_ediv_mul_of_pos_left n' d' hd]
theorem fl_ce_eq {n d n' d' : Int} (hd : 0 < d) (hd' : 0 < d') (h : n * d' = n' * d) : n / d = n' / d' ∧ -((-n) / d) = -((-n') / d') := by
  refine ⟨div_eq hd hd' h, ?_⟩
  rw [div_eq (n := -n) (n' := -n') hd hd' (by rw [Int.neg_mul, Int.neg_mul, h])]
theorem fl_mono {n d n' d' : Int} (hd : 0 < d) (hd' : 0 < d') (h : n * d' ≤ n' * d) : n / d ≤ n' / d' := by
  rw [← Int.mul_ediv_mul_of_pos_left n d hd', ← Int.mul_ediv_mul_of_pos_left n' d' hd, Int.mul_comm d' d]
  exact Int.ediv_le_ediv (Int.mul_pos hd hd') h
end Go.Proofs.Yteodlmgmmpkpoaa.PS
end
section
namespace Go.Proofs.Yteodlmgmmpkpoaa.PS
set_option linter.unusedVariables false
theorem fl_least (m q : Pt) (hm : 0 < m.d) (hq : 0 < q.d) : flP (if ltP q m then q else m) = min (flP m) (flP q) := by
  unfold flP ltP
  by_cases h : q.n * m.d < m.n * q.d
  · rw [if_pos (by simpa using h)]
    have := fl_mono hq hm (Int.le_of_lt h)
    omega
  · rw [if_neg (by simpa using h)]
    have := fl_mono hm hq (Int.not_lt.1 h)
    omega
theorem ce_most (m q : Pt) (hm : 0 < m.d) (hq : 0 < q.d) : ceP (if ltP m q then q else m) = max (ceP m) (ceP q) := by
  unfold ceP ltP
  by_cases h : m.n * q.d < q.n * m.d
  · rw [if_pos (by simpa using h)]
    have := fl_mono (n := -q.n) (n' := -m.n) hq hm (by rw [Int.neg_mul, Int.neg_mul]; omega)
    omega
  · rw [if_neg (by simpa using h)]
    have := fl_mono (n := -m.n) (n' := -q.n) hm hq (by rw [Int.neg_mul, Int.neg_mul]; omega)
    omega
theorem pos_pick {c : Bool} {m q : Pt} (hm : 0 < m.d) (hq : 0 < q.d) : 0 < (if c then q else m).d := by
  cases c
  · exact hm
  · exact hq
theorem fl_foldl : ∀ (l : List Pt) (m : Pt), 0 < m.d → (∀ q ∈ l, 0 < q.d) → flP (l.foldl (fun m q => if ltP q m then q else m) m) = foldLo l (flP m)
  | [], m, _, _ => rfl
  | q :: l, m, hm, hl => by
    have hq := hl q (by simp)
    have ih := fl_foldl l (if ltP q m then q else m) (pos_pick hm hq) (fun x hx => hl x (by simp [hx]))
    rw [List.foldl_cons, ih, fl_least m q hm hq]
    rfl
theorem ce_foldl : ∀ (l : List Pt) (m : Pt), 0 < m.d → (∀ q ∈ l, 0 < q.d) → ceP (l.foldl (fun m q => if ltP m q then q else m) m) = foldHi l (ceP m)
  | [], m, _, _ => rfl
  | q :: l, m, hm, hl => by
    have hq := hl q (by simp)
    have ih := ce_foldl l (if ltP m q then q else m) (pos_pick hm hq) (fun x hx => hl x (by simp [hx]))
    rw [List.foldl_cons, ih, ce_most m q hm hq]
    rfl
theorem fl_leastP (p : Pt) (l : List Pt) (h : ∀ q ∈ p :: l, 0 < q.d) : flP (leastP (p :: l)) = foldLo (p :: l) (flP p) := by
  have := fl_foldl l p (h p (by simp)) (fun q hq => h q (by simp [hq]))
  unfold leastP
  rw [this]
  unfold foldLo
  rw [List.foldl_cons, show min (flP p) (flP p) = flP p by omega]
theorem ce_mostP (p : Pt) (l : List Pt) (h : ∀ q ∈ p :: l, 0 < q.d) : ceP (mostP (p :: l)) = foldHi (p :: l) (ceP p) := by
  have := ce_foldl l p (h p (by simp)) (fun q hq => h q (by simp [hq]))
  unfold mostP
  rw [this]
  unfold foldHi
  rw [List.foldl_cons, show max (ceP p) (ceP p) = ceP p by omega]
end Go.Proofs.Yteodlmgmmpkpoaa.PS
end
section
namespace Go.Proofs.Yteodlmgmmpkpoaa.PS
set_option linter.unusedVariables false
theorem foldLo_map (l : List Pt) (a : Int) : foldLo l a = (l.map flP).foldl min a := by
  unfold foldLo; rw [List.foldl_map]
theorem foldHi_map (l : List Pt) (a : Int) : foldHi l a = (l.map ceP).foldl max a := by
  unfold foldHi; rw [List.foldl_map]
theorem grid_map {β : Type} (xs ys : List Int) (f g : Int → Int → Pt) (h : Pt → β) (he : ∀ x ∈ xs, ∀ y ∈ ys, h (f x y) = h (g x y)) : (gridL xs ys f).map h = (gridL xs ys g).map h := by
  unfold gridL
  rw [List.map_flatMap, List.map_flatMap]
  induction xs with
  | nil => rfl
  | cons a l ih =>
    rw [List.flatMap_cons, List.flatMap_cons, ih (fun x hx => he x (List.mem_cons_of_mem _ hx)), List.map_map, List.map_map]
    congr 1
    exact List.map_congr_left fun y hy => he a List.mem_cons_self y hy
theorem den_pos {X Y : List Int} (hx : Ax X) (hy : Ax Y) {i k : Nat} (hi : i + 1 < X.length) (hk : k + 1 < Y.length) : 0 < denAt X Y i k := by
  unfold denAt
  have e1 := hx.asc i (i + 1) (by omega) hi
  have e2 := hy.asc k (k + 1) (by omega) hk
  exact Int.mul_pos (by omega) (by omega)
theorem pt_eq {X Y : List Int} {V : List (List Int)} (t : Tb X Y V) {x y : Int} (hx : onB X x x = true) (hy : onB Y y y = true) : flP (ptAt X Y V x y) = flP (ptRef X Y V x y) ∧ ceP (ptAt X Y V x y) = ceP (ptRef X Y V x y) := by
  have sx := cell_spot t.ax hx
  have sx' := part_spot t.ax hx
  have sy := cell_spot t.ay hy
  have sy' := part_spot t.ay hy
  exact fl_ce_eq (den_pos t.ax t.ay sx.lt sy.lt) (den_pos t.ax t.ay sx'.lt sy'.lt) (frac_eq t.ax t.ay sx sx' sy sy')
theorem pts_eq {X Y : List Int} {V : List (List Int)} {a0 a1 b0 b1 : Int} (ht : tableB X Y V = true) (hxon : onB X a0 a1 = true) (hyon : onB Y b0 b1 = true) (hxle : a0 ≤ a1) (hyle : b0 ≤ b1) :
    (ptsL X Y V a0 a1 b0 b1).map flP = (ptsR X Y V a0 a1 b0 b1).map flP ∧ (ptsL X Y V a0 a1 b0 b1).map ceP = (ptsR X Y V a0 a1 b0 b1).map ceP :=
  ⟨grid_map _ _ _ _ _ fun x hx y hy => (pt_eq (tb_of ht) (stops_on hxon hxle hx).1 (stops_on hyon hyle hy).1).1, grid_map _ _ _ _ _ fun x hx y hy => (pt_eq (tb_of ht) (stops_on hxon hxle hx).1 (stops_on hyon hyle hy).1).2⟩
end Go.Proofs.Yteodlmgmmpkpoaa.PS
end
section
namespace Go.Proofs.Yteodlmgmmpkpoaa.PS
open Go.RowKit Go.Proofs.YteodlmgmmpkpoaaW.PrintWords Go.Proofs.YteodlmgmmpkpoaaW.PrintLast Go.Proofs.YteodlmgmmpkpoaaW.PrintMore
set_option linter.unusedVariables false
theorem spanned2 (a0 a1 b0 b1 : Int) : spans_spanned.f [⟨a0, a1⟩, ⟨b0, b1⟩] = some (if okS a0 a1 && okS b0 b1 then 0 else 10) := by
  unfold spans_spanned.f
  simp only [List.all_cons, List.all_nil, Bool.and_true]
end Go.Proofs.Yteodlmgmmpkpoaa.PS
end
section
namespace Go.Proofs.Yteodlmgmmpkpoaa.PS
open Go.RowKit Go.Proofs.YteodlmgmmpkpoaaW.PrintWords Go.Proofs.YteodlmgmmpkpoaaW.PrintLast Go.Proofs.YteodlmgmmpkpoaaW.PrintMore
set_option linter.unusedVariables false
theorem lies_total {l : List Int} (h : 2 ≤ l.length) (hl : l.length ≤ 15) (a b : Int) : spans_lies.f l a b = some (onB l a b) := by
  have e : wrap64 ((l.length : Int) - 1) = ((l.length - 1 : Nat) : Int) := by rw [wr64 (by omega) (by omega)]; omega
  have e0 : rd l 0 = gI l 0 := rd_nat l 0
  unfold spans_lies.f onB
  rw [if_pos (by omega), e0, e]
  by_cases h1 : a ≥ gI l 0
  · rw [if_pos h1, if_pos (by omega), if_pos (by omega), rd_nat, decide_eq_true (show gI l 0 ≤ a from h1), Bool.true_and]
  · rw [if_neg h1, decide_eq_false (show ¬ gI l 0 ≤ a from h1), Bool.false_and]
theorem cp_total (X Y : List Int) (V : List (List Int)) (a0 a1 b0 b1 : Int) : spans_checkPoints.f X Y V a0 a1 b0 b1 = some (pointsE X Y V a0 a1 b0 b1) := by
  unfold spans_checkPoints.f pointsE spans_CheckTable.f
  rw [Option.bind_some]
  cases ht : tableB X Y V with
  | false => rfl
  | true =>
    obtain ⟨⟨x0, x1⟩, y0, y1⟩ := tb_lens ht
    rw [if_pos rfl, if_pos rfl, if_pos rfl, spanned2, Option.bind_some]
    cases okS a0 a1 && okS b0 b1 with
    | false => rfl
    | true =>
      rw [if_pos rfl, if_pos rfl, if_pos rfl, lies_total x0 (by omega), Option.bind_some]
      cases onB X a0 a1 with
      | false => rfl
      | true =>
        rw [if_pos rfl, lies_total y0 (by omega), Option.bind_some]
        cases onB Y b0 b1 <;> rfl
theorem points_iff (X Y : List Int) (V : List (List Int)) (a0 a1 b0 b1 : Int) : pointsE X Y V a0 a1 b0 b1 = 0 ↔ pointsB X Y V a0 a1 b0 b1 = true := by
  unfold pointsE pointsB
  cases tableB X Y V <;> cases (okS a0 a1 && okS b0 b1) <;> cases (onB X a0 a1 && onB Y b0 b1) <;> simp
structure Box2 (X Y : List Int) (V : List (List Int)) (a0 a1 b0 b1 : Int) : Prop where
  tab : tableB X Y V = true
  okx : okS a0 a1 = true
  oky : okS b0 b1 = true
  onx : onB X a0 a1 = true
  ony : onB Y b0 b1 = true
theorem box2_of {X Y : List Int} {V : List (List Int)} {a0 a1 b0 b1 : Int} (h : pointsB X Y V a0 a1 b0 b1 = true) : Box2 X Y V a0 a1 b0 b1 := by
  unfold pointsB at h
  simp only [Bool.and_eq_true] at h
  obtain ⟨⟨ht, ho0, ho1⟩, hx, hy⟩ := h
  exact ⟨ht, ho0, ho1, hx, hy⟩
theorem box2_points {X Y : List Int} {V : List (List Int)} {a0 a1 b0 b1 : Int} (h : Box2 X Y V a0 a1 b0 b1) : pointsB X Y V a0 a1 b0 b1 = true := by
  unfold pointsB
  rw [h.tab, h.okx, h.oky, h.onx, h.ony]; rfl
section
variable {X Y : List Int} {V : List (List Int)} {a0 a1 b0 b1 : Int}
theorem Box2.stx (h : Box2 X Y V a0 a1 b0 b1) {x : Int} (hx : x ∈ stopsL X a0 a1) : onB X x x = true ∧ a0 ≤ x ∧ x ≤ a1 := stops_on h.onx (okS_le h.okx) hx
theorem Box2.sty (h : Box2 X Y V a0 a1 b0 b1) {y : Int} (hy : y ∈ stopsL Y b0 b1) : onB Y y y = true ∧ b0 ≤ y ∧ y ≤ b1 := stops_on h.ony (okS_le h.oky) hy
theorem good_at (t : tableB X Y V = true) {x y : Int} (hx : onB X x x = true) (hy : onB Y y y = true) : GoodP (ptAt X Y V x y) := good_pt (tb_of t) (cell_spot (tb_of t).ax hx) (cell_spot (tb_of t).ay hy)
theorem good_ref (t : tableB X Y V = true) {x y : Int} (hx : onB X x x = true) (hy : onB Y y y = true) : GoodP (ptRef X Y V x y) := good_pt (tb_of t) (part_spot (tb_of t).ax hx) (part_spot (tb_of t).ay hy)
theorem grid_mem {xs ys : List Int} {f : Int → Int → Pt} {q : Pt} (h : q ∈ gridL xs ys f) : ∃ x ∈ xs, ∃ y ∈ ys, q = f x y := by
  unfold gridL at h
  rw [List.mem_flatMap] at h
  obtain ⟨x, hx, hq⟩ := h
  rw [List.mem_map] at hq
  obtain ⟨y, hy, rfl⟩ := hq
  exact ⟨x, hx, y, hy, rfl⟩
theorem Box2.goodL (h : Box2 X Y V a0 a1 b0 b1) {q : Pt} (hq : q ∈ ptsL X Y V a0 a1 b0 b1) : GoodP q := by
  obtain ⟨x, hx, y, hy, rfl⟩ := grid_mem hq
  exact good_at h.tab (h.stx hx).1 (h.sty hy).1
theorem stops_cons (l : List Int) (lo hi : Int) : ∃ r, stopsL l lo hi = lo :: r := ⟨_, rfl⟩
theorem grid_cons (X Y : List Int) (a0 a1 b0 b1 : Int) (f : Int → Int → Pt) : ∃ r, gridL (stopsL X a0 a1) (stopsL Y b0 b1) f = f a0 b0 :: r := by
  obtain ⟨r, hr⟩ := stops_cons X a0 a1
  obtain ⟨s, hs⟩ := stops_cons Y b0 b1
  rw [hr, hs]
  exact ⟨_, rfl⟩
theorem pick_mem (f : Pt → Pt → Bool) : ∀ (l : List Pt) (a : Pt), l.foldl (fun m q => if f m q then q else m) a = a ∨ l.foldl (fun m q => if f m q then q else m) a ∈ l
  | [], a => .inl rfl
  | b :: l, a => by
    rw [List.foldl_cons]
    rcases pick_mem f l (if f a b then b else a) with h | h
    · by_cases hf : f a b = true
      · rw [if_pos hf] at h ⊢; exact .inr (by rw [h]; simp)
      · rw [if_neg hf] at h ⊢; exact .inl h
    · exact .inr (List.mem_cons_of_mem _ h)
theorem least_mem (p : Pt) (l : List Pt) : leastP (p :: l) ∈ p :: l := by
  change l.foldl (fun m q => if ltP q m then q else m) p ∈ p :: l
  rcases pick_mem (fun m q => ltP q m) l p with h | h
  · rw [h]; simp
  · exact List.mem_cons_of_mem _ h
theorem most_mem (p : Pt) (l : List Pt) : mostP (p :: l) ∈ p :: l := by
  change l.foldl (fun m q => if ltP m q then q else m) p ∈ p :: l
  rcases pick_mem (fun m q => ltP m q) l p with h | h
  · rw [h]; simp
  · exact List.mem_cons_of_mem _ h
theorem Box2.least_in (h : Box2 X Y V a0 a1 b0 b1) : leastP (ptsL X Y V a0 a1 b0 b1) ∈ ptsL X Y V a0 a1 b0 b1 := by
  obtain ⟨r, hr⟩ := grid_cons X Y a0 a1 b0 b1 (ptAt X Y V)
  unfold ptsL; rw [hr]; exact least_mem _ _
theorem Box2.most_in (h : Box2 X Y V a0 a1 b0 b1) : mostP (ptsL X Y V a0 a1 b0 b1) ∈ ptsL X Y V a0 a1 b0 b1 := by
  obtain ⟨r, hr⟩ := grid_cons X Y a0 a1 b0 b1 (ptAt X Y V)
  unfold ptsL; rw [hr]; exact most_mem _ _
theorem Box2.lo_eq (h : Box2 X Y V a0 a1 b0 b1) : flP (leastP (ptsL X Y V a0 a1 b0 b1)) = foldLo (ptsR X Y V a0 a1 b0 b1) (flP (headP (ptsR X Y V a0 a1 b0 b1))) := by
  have he := (pts_eq h.tab h.onx h.ony (okS_le h.okx) (okS_le h.oky)).1
  obtain ⟨r, hr⟩ := grid_cons X Y a0 a1 b0 b1 (ptAt X Y V)
  obtain ⟨s, hs⟩ := grid_cons X Y a0 a1 b0 b1 (ptRef X Y V)
  have hg : ∀ q ∈ ptsL X Y V a0 a1 b0 b1, 0 < q.d := fun q hq => (h.goodL hq).1
  unfold ptsL ptsR at *
  rw [hr] at he hg ⊢
  rw [hs] at he ⊢
  rw [fl_leastP _ _ hg, foldLo_map, foldLo_map, he]
  simp only [List.map_cons, List.cons.injEq] at he
  rw [he.1]; rfl
theorem Box2.hi_eq (h : Box2 X Y V a0 a1 b0 b1) : ceP (mostP (ptsL X Y V a0 a1 b0 b1)) = foldHi (ptsR X Y V a0 a1 b0 b1) (ceP (headP (ptsR X Y V a0 a1 b0 b1))) := by
  have he := (pts_eq h.tab h.onx h.ony (okS_le h.okx) (okS_le h.oky)).2
  obtain ⟨r, hr⟩ := grid_cons X Y a0 a1 b0 b1 (ptAt X Y V)
  obtain ⟨s, hs⟩ := grid_cons X Y a0 a1 b0 b1 (ptRef X Y V)
  have hg : ∀ q ∈ ptsL X Y V a0 a1 b0 b1, 0 < q.d := fun q hq => (h.goodL hq).1
  unfold ptsL ptsR at *
  rw [hr] at he hg ⊢
  rw [hs] at he ⊢
  rw [ce_mostP _ _ hg, foldHi_map, foldHi_map, he]
  simp only [List.map_cons, List.cons.injEq] at he
  rw [he.1]; rfl
theorem ext_total (h : Box2 X Y V a0 a1 b0 b1) : spans_extremes.f X Y V a0 a1 b0 b1 =
    some ((leastP (ptsL X Y V a0 a1 b0 b1)).x, (leastP (ptsL X Y V a0 a1 b0 b1)).y, (leastP (ptsL X Y V a0 a1 b0 b1)).n, (leastP (ptsL X Y V a0 a1 b0 b1)).d,
      (mostP (ptsL X Y V a0 a1 b0 b1)).x, (mostP (ptsL X Y V a0 a1 b0 b1)).y, (mostP (ptsL X Y V a0 a1 b0 b1)).n, (mostP (ptsL X Y V a0 a1 b0 b1)).d) := by
  unfold spans_extremes.f
  rw [if_pos (box2_points h)]
theorem good_fl {p : Pt} (h : GoodP p) : spans_floor.f p.n p.d = some (flP p) := by
  obtain ⟨h1, h2, h3, h4⟩ := h
  exact floor_total _ _ h1 (by omega) (by omega)
theorem good_up {p : Pt} (h : GoodP p) : spans_value_up.f p.n p.d = some (ceP p) := by
  obtain ⟨h1, h2, h3, h4⟩ := h
  exact up_total _ _ h1 (by omega) (by omega)
theorem good_rfl {p : Pt} (h : GoodP p) : swashplateref01_floor.f p.n p.d = some (flP p) := by
  obtain ⟨h1, h2, h3, h4⟩ := h
  exact rfloor_total _ _ h1 (by omega) (by omega) (by omega)
theorem good_rce {p : Pt} (h : GoodP p) : swashplateref01_ceil.f p.n p.d = some (ceP p) := by
  obtain ⟨h1, h2, h3, h4⟩ := h
  exact rceil_total _ _ h1 (by omega) (by omega) (by omega)
end
theorem value_total {X Y : List Int} {V : List (List Int)} (ht : tableB X Y V = true) {x y : Int} (hx : onB X x x = true) (hy : onB Y y y = true) : swashplateref01_Value.f X Y V x y = some ((ptRef X Y V x y).n, (ptRef X Y V x y).d) := by
  unfold swashplateref01_Value.f
  rw [ht, hx, hy]; rfl
end Go.Proofs.Yteodlmgmmpkpoaa.PS
end
section
namespace Go.Proofs.Yteodlmgmmpkpoaa.PS
open Go.RowKit Go.Proofs.YteodlmgmmpkpoaaW.PrintWords Go.Proofs.YteodlmgmmpkpoaaW.PrintLast Go.Proofs.YteodlmgmmpkpoaaW.PrintMore
attribute [local go_sem] max2_int min2_int max_two min_two max_three min_three max_four min_four   -- for this text's walks alone
set_option linter.unusedVariables false
set_option linter.unusedSimpArgs false
def spans_Worst.f (l0_0 : List Int) (l0_1 : List Int) (l0_2 : List (List Int)) (a1_0 : Int) (a1_1 : Int) (a2_0 : Int) (a2_1 : Int) : Option (Int × Int × Int) := (spans_checkPoints.f l0_0 l0_1 l0_2 a1_0 a1_1 a2_0 a2_1).bind fun t452 => (if t452 = 0 then ((spans_extremes.f l0_0 l0_1 l0_2 a1_0 a1_1 a2_0 a2_1).bind fun bt453 => (some (bt453.2.2.2.2.1, bt453.2.2.2.2.2.1, 0))) else (some (0, 0, t452)))
set_option maxHeartbeats 8000000 in
set_option maxRecDepth 100000 in
theorem spans_Worst.calls (A0_0 : Option Addr) (c0_0 : Nat) (l0_0 : List Int) (A0_1 : Option Addr) (c0_1 : Nat) (l0_1 : List Int) (A0_2 : Option Addr) (c0_2 : Nat) (l0_2 : List (List Int)) (a1_0 : Int) (a1_1 : Int) (a2_0 : Int) (a2_1 : Int) (r1 : Int) (r2 : Int) (r3 : Int) (w : World) (hr0_0 : Kd.C (Kd.int .i64) w A0_0 l0_0.length l0_0) (hc0_0 : l0_0.length ≤ c0_0) (hr0_1 : Kd.C (Kd.int .i64) w A0_1 l0_1.length l0_1) (hc0_1 : l0_1.length ≤ c0_1) (hr0_2 : Kd.C (Kd.slice 3 (Kd.int .i64)) w A0_2 l0_2.length l0_2) (hc0_2 : l0_2.length ≤ c0_2) (h : spans_Worst.f l0_0 l0_1 l0_2 a1_0 a1_1 a2_0 a2_1 = some (r1, r2, r3)) :
  Calls Try.prog 32 #[.agg #[.slice A0_0 l0_0.length c0_0, .slice A0_1 l0_1.length c0_1, .slice A0_2 l0_2.length c0_2], .agg #[.int .i64 a1_0, .int .i64 a1_1], .agg #[.int .i64 a2_0, .int .i64 a2_1]] w fun e w' => e = .returned (.tuple #[.int .i64 r1, .int .i64 r2, .int .i64 r3]) ∧ Below w.heap.size w w' := by
 have hu25 := Try.underlying25
 have hu27 := Try.underlying27
 have hu133 := Try.underlying133
 have HR0_0 := Aside0.mk hr0_0
 have HC0_0 := Aside0.mk hc0_0
 clear hr0_0 hc0_0
 have HR0_1 := Aside0.mk hr0_1
 have HC0_1 := Aside0.mk hc0_1
 clear hr0_1 hc0_1
 have HR0_2 := Aside0.mk hr0_2
 have HC0_2 := Aside0.mk hc0_2
 clear hr0_2 hc0_2
 have HB := Aside0.mk (Below.refl w.heap.size w)
 have H : ((spans_checkPoints.f l0_0 l0_1 l0_2 a1_0 a1_1 a2_0 a2_1).bind fun t452 => (if t452 = 0 then ((spans_extremes.f l0_0 l0_1 l0_2 a1_0 a1_1 a2_0 a2_1).bind fun bt453 => (some (bt453.2.2.2.2.1, bt453.2.2.2.2.2.1, 0))) else (some (0, 0, t452)))) = some (r1, r2, r3) := h
 clear h
 replace H := Option.bind_eq_some_iff.mp H
 obtain ⟨t452, A40, H⟩ := H
 replace H : (if t452 = 0 then ((spans_extremes.f l0_0 l0_1 l0_2 a1_0 a1_1 a2_0 a2_1).bind fun bt453 => (some (bt453.2.2.2.2.1, bt453.2.2.2.2.2.1, 0))) else (some (0, 0, t452))) = some (r1, r2, r3) := H
 have A4 := Aside0.mk A40
 clear A40
 by_cases c5 : t452 = 0
 ·
  rw [if_pos c5] at H
  have c5b0 : (t452 == 0) = true := beq_iff_eq.mpr c5
  have c5b1 : (t452 != 0) = false := bne_eq_false_iff_eq.mpr c5
  clear c5
  replace H := Option.bind_eq_some_iff.mp H
  obtain ⟨⟨t453, t454, t455, t456, t457, t458, t459, t460⟩, A60, H⟩ := H
  replace H : (some (t457, t458, 0)) = some (r1, r2, r3) := H
  have A6 := Aside0.mk A60
  clear A60
  simp only [Option.some.injEq, Prod.mk.injEq] at H
  obtain ⟨rfl, rfl, rfl⟩ := H
  go_enter Try.func32, Try.ntmps32
  go_wp2_with (first | ((with_reducible refine gate_dst (N := 3) rfl ?_); refine box_event ?hg (N := 3) ?hd (cs := #[.slice A0_0 l0_0.length c0_0, .slice A0_1 l0_1.length c0_1, .slice A0_2 l0_2.length c0_2]) (t := 25) ?hr ?_; (case hd => rfl); (case hg => rfl); (case hr => first | (go_simp; done) | (go_simp; rfl)); intro gb449 hg w7 hbox hb; have n0_ := Aside0.mk (below_step (bl_ HB.out) hb); have n1_ := Aside0.mk (hbox); have n2_ := Aside0.mk (szl_ hg HB.out); have n3_ := Aside0.mk (szl_ hg HB.out); clear HB; have HB := n0_; have BK449 := n1_; have GW449 := n2_; have GE449 := n3_; clear n0_ n1_ n2_ n3_ hb hbox hg) | ((with_reducible refine gate_dst (N := 4) rfl ?_); refine box_event ?hg (N := 4) ?hd (cs := #[.int .i64 a1_0, .int .i64 a1_1]) (t := 27) ?hr ?_; (case hd => rfl); (case hg => rfl); (case hr => first | (go_simp; done) | (go_simp; rfl)); intro gb450 hg w8 hbox hb; have n0_ := Aside0.mk (blk_below (bk_ BK449.out) hb); have n1_ := Aside0.mk (below_step (bl_ HB.out) hb); have n2_ := Aside0.mk (hbox); have n3_ := Aside0.mk (szl_ hg HB.out); have n4_ := Aside0.mk (szl_ hg HB.out); have n5_ := Aside0.mk (nel_ hg BK449.out); have n6_ := Aside0.mk (ner_ hg BK449.out); clear BK449 HB; have BK449 := n0_; have HB := n1_; have BK450 := n2_; have GW450 := n3_; have GE450 := n4_; have NB449_450 := n5_; have NB450_449 := n6_; clear n0_ n1_ n2_ n3_ n4_ n5_ n6_ hb hbox hg) | ((with_reducible refine gate_dst (N := 5) rfl ?_); refine box_event ?hg (N := 5) ?hd (cs := #[.int .i64 a2_0, .int .i64 a2_1]) (t := 27) ?hr ?_; (case hd => rfl); (case hg => rfl); (case hr => first | (go_simp; done) | (go_simp; rfl)); intro gb451 hg w9 hbox hb; have n0_ := Aside0.mk (blk_below (bk_ BK449.out) hb); have n1_ := Aside0.mk (blk_below (bk_ BK450.out) hb); have n2_ := Aside0.mk (below_step (bl_ HB.out) hb); have n3_ := Aside0.mk (hbox); have n4_ := Aside0.mk (szl_ hg HB.out); have n5_ := Aside0.mk (szl_ hg HB.out); have n6_ := Aside0.mk (nel_ hg BK449.out); have n7_ := Aside0.mk (ner_ hg BK449.out); have n8_ := Aside0.mk (nel_ hg BK450.out); have n9_ := Aside0.mk (ner_ hg BK450.out); clear BK449 BK450 HB; have BK449 := n0_; have BK450 := n1_; have HB := n2_; have BK451 := n3_; have GW451 := n4_; have GE451 := n5_; have NB449_451 := n6_; have NB451_449 := n7_; have NB450_451 := n8_; have NB451_450 := n9_; clear n0_ n1_ n2_ n3_ n4_ n5_ n6_ n7_ n8_ n9_ hb hbox hg; have hnb10 := NB449_450.out; have hnc10 := NB450_449.out; have hnb11 := NB449_451.out; have hnc11 := NB451_449.out; have hcz12_0 : w9.cell? ⟨gb449, 0, none⟩ = some (.slice A0_0 l0_0.length c0_0) := (blk_cell BK449.out 0).trans rfl; have hcz12_1 : w9.cell? ⟨gb449, 1, none⟩ = some (.slice A0_1 l0_1.length c0_1) := (blk_cell BK449.out 1).trans rfl; have hcz12_2 : w9.cell? ⟨gb449, 2, none⟩ = some (.slice A0_2 l0_2.length c0_2) := (blk_cell BK449.out 2).trans rfl; have hfz12_0 := blk_frozen BK449.out 0; have hfz12_1 := blk_frozen BK449.out 1; have hfz12_2 := blk_frozen BK449.out 2; have hnb13 := NB450_451.out; have hnc13 := NB451_450.out; have hcz14_0 : w9.cell? ⟨gb450, 0, none⟩ = some (.int .i64 a1_0) := (blk_cell BK450.out 0).trans rfl; have hcz14_1 : w9.cell? ⟨gb450, 1, none⟩ = some (.int .i64 a1_1) := (blk_cell BK450.out 1).trans rfl; have hfz14_0 := blk_frozen BK450.out 0; have hfz14_1 := blk_frozen BK450.out 1; have hcz15_0 : w9.cell? ⟨gb451, 0, none⟩ = some (.int .i64 a2_0) := (blk_cell BK451.out 0).trans rfl; have hcz15_1 : w9.cell? ⟨gb451, 1, none⟩ = some (.int .i64 a2_1) := (blk_cell BK451.out 1).trans rfl; have hfz15_0 := blk_frozen BK451.out 0; have hfz15_1 := blk_frozen BK451.out 1) | (go_at_call 88; (with_reducible refine (spans_checkPoints.calls _ _ l0_0 _ _ l0_1 _ _ l0_2 a1_0 a1_1 a2_0 a2_1 t452 _ ?side1 ?side2 ?side3 ?side4 ?side5 ?side6 A4.out).mono ?_); (case side1 => exact cr_ (Kd.C_below HR0_0.out HB.out)); (case side2 => exact HC0_0.out); (case side3 => exact cr_ (Kd.C_below HR0_1.out HB.out)); (case side4 => exact HC0_1.out); (case side5 => exact cr_ (Kd.C_below HR0_2.out HB.out)); (case side6 => exact HC0_2.out); rintro e w16 ⟨rfl, hb⟩; have n0_ := Aside0.mk (blk_below (bk_ BK449.out) hb); have n1_ := Aside0.mk (blk_below (bk_ BK450.out) hb); have n2_ := Aside0.mk (blk_below (bk_ BK451.out) hb); have n3_ := Aside0.mk (below_step (bl_ HB.out) hb); clear BK449 BK450 BK451 HB; have BK449 := n0_; have BK450 := n1_; have BK451 := n2_; have HB := n3_; clear n0_ n1_ n2_ n3_; (try clear hb); (try clear hb2); (try clear hk); (try clear hi); have hcz17_0 : w16.cell? ⟨gb449, 0, none⟩ = some (.slice A0_0 l0_0.length c0_0) := (blk_cell BK449.out 0).trans rfl; have hcz17_1 : w16.cell? ⟨gb449, 1, none⟩ = some (.slice A0_1 l0_1.length c0_1) := (blk_cell BK449.out 1).trans rfl; have hcz17_2 : w16.cell? ⟨gb449, 2, none⟩ = some (.slice A0_2 l0_2.length c0_2) := (blk_cell BK449.out 2).trans rfl; have hfz17_0 := blk_frozen BK449.out 0; have hfz17_1 := blk_frozen BK449.out 1; have hfz17_2 := blk_frozen BK449.out 2; have hcz18_0 : w16.cell? ⟨gb450, 0, none⟩ = some (.int .i64 a1_0) := (blk_cell BK450.out 0).trans rfl; have hcz18_1 : w16.cell? ⟨gb450, 1, none⟩ = some (.int .i64 a1_1) := (blk_cell BK450.out 1).trans rfl; have hfz18_0 := blk_frozen BK450.out 0; have hfz18_1 := blk_frozen BK450.out 1; have hcz19_0 : w16.cell? ⟨gb451, 0, none⟩ = some (.int .i64 a2_0) := (blk_cell BK451.out 0).trans rfl; have hcz19_1 : w16.cell? ⟨gb451, 1, none⟩ = some (.int .i64 a2_1) := (blk_cell BK451.out 1).trans rfl; have hfz19_0 := blk_frozen BK451.out 0; have hfz19_1 := blk_frozen BK451.out 1) | (go_at_call 89; (with_reducible refine (spans_extremes.calls _ _ l0_0 _ _ l0_1 _ _ l0_2 a1_0 a1_1 a2_0 a2_1 t453 t454 t455 t456 t457 t458 t459 t460 _ ?side1 ?side2 ?side3 ?side4 ?side5 ?side6 A6.out).mono ?_); (case side1 => exact cr_ (Kd.C_below HR0_0.out HB.out)); (case side2 => exact HC0_0.out); (case side3 => exact cr_ (Kd.C_below HR0_1.out HB.out)); (case side4 => exact HC0_1.out); (case side5 => exact cr_ (Kd.C_below HR0_2.out HB.out)); (case side6 => exact HC0_2.out); rintro e w20 ⟨rfl, hb⟩; have n0_ := Aside0.mk (blk_below (bk_ BK449.out) hb); have n1_ := Aside0.mk (blk_below (bk_ BK450.out) hb); have n2_ := Aside0.mk (blk_below (bk_ BK451.out) hb); have n3_ := Aside0.mk (below_step (bl_ HB.out) hb); clear BK449 BK450 BK451 HB; have BK449 := n0_; have BK450 := n1_; have BK451 := n2_; have HB := n3_; clear n0_ n1_ n2_ n3_; (try clear hb); (try clear hb2); (try clear hk); (try clear hi)) | ((with_reducible refine gate_dst (N := 10) rfl ?_); refine box_event ?hg (N := 10) ?hd (cs := #[.int .i64 0, .int .i64 0, .int .i64 0, .int .i64 0]) (t := 133) ?hr ?_; (case hd => rfl); (case hg => rfl); (case hr => first | (go_simp; done) | (go_simp; rfl)); intro gb461 hg w21 hbox hb; have n0_ := Aside0.mk (blk_below (bk_ BK449.out) hb); have n1_ := Aside0.mk (blk_below (bk_ BK450.out) hb); have n2_ := Aside0.mk (blk_below (bk_ BK451.out) hb); have n3_ := Aside0.mk (below_step (bl_ HB.out) hb); have n4_ := Aside0.mk (hbox); have n5_ := Aside0.mk (szl_ hg HB.out); have n6_ := Aside0.mk (szl_ hg HB.out); have n7_ := Aside0.mk (nel_ hg BK449.out); have n8_ := Aside0.mk (ner_ hg BK449.out); have n9_ := Aside0.mk (nel_ hg BK450.out); have n10_ := Aside0.mk (ner_ hg BK450.out); have n11_ := Aside0.mk (nel_ hg BK451.out); have n12_ := Aside0.mk (ner_ hg BK451.out); clear BK449 BK450 BK451 HB; have BK449 := n0_; have BK450 := n1_; have BK451 := n2_; have HB := n3_; have BK461 := n4_; have GW461 := n5_; have GE461 := n6_; have NB449_461 := n7_; have NB461_449 := n8_; have NB450_461 := n9_; have NB461_450 := n10_; have NB451_461 := n11_; have NB461_451 := n12_; clear n0_ n1_ n2_ n3_ n4_ n5_ n6_ n7_ n8_ n9_ n10_ n11_ n12_ hb hbox hg) | ((with_reducible refine gate_dst (N := 11) rfl ?_); refine box_event ?hg (N := 11) ?hd (cs := #[.int .i64 0, .int .i64 0, .int .i64 0, .int .i64 0]) (t := 133) ?hr ?_; (case hd => rfl); (case hg => rfl); (case hr => first | (go_simp; done) | (go_simp; rfl)); intro gb462 hg w22 hbox hb; have n0_ := Aside0.mk (blk_below (bk_ BK449.out) hb); have n1_ := Aside0.mk (blk_below (bk_ BK450.out) hb); have n2_ := Aside0.mk (blk_below (bk_ BK451.out) hb); have n3_ := Aside0.mk (blk_below (bk_ BK461.out) hb); have n4_ := Aside0.mk (below_step (bl_ HB.out) hb); have n5_ := Aside0.mk (hbox); have n6_ := Aside0.mk (szl_ hg HB.out); have n7_ := Aside0.mk (szl_ hg HB.out); have n8_ := Aside0.mk (nel_ hg BK449.out); have n9_ := Aside0.mk (ner_ hg BK449.out); have n10_ := Aside0.mk (nel_ hg BK450.out); have n11_ := Aside0.mk (ner_ hg BK450.out); have n12_ := Aside0.mk (nel_ hg BK451.out); have n13_ := Aside0.mk (ner_ hg BK451.out); have n14_ := Aside0.mk (nel_ hg BK461.out); have n15_ := Aside0.mk (ner_ hg BK461.out); clear BK449 BK450 BK451 BK461 HB; have BK449 := n0_; have BK450 := n1_; have BK451 := n2_; have BK461 := n3_; have HB := n4_; have BK462 := n5_; have GW462 := n6_; have GE462 := n7_; have NB449_462 := n8_; have NB462_449 := n9_; have NB450_462 := n10_; have NB462_450 := n11_; have NB451_462 := n12_; have NB462_451 := n13_; have NB461_462 := n14_; have NB462_461 := n15_; clear n0_ n1_ n2_ n3_ n4_ n5_ n6_ n7_ n8_ n9_ n10_ n11_ n12_ n13_ n14_ n15_ hb hbox hg; have hnb23 := NB461_449.out; have hnc23 := NB449_461.out; have hnb24 := NB461_450.out; have hnc24 := NB450_461.out; have hnb25 := NB461_451.out; have hnc25 := NB451_461.out; have hnb26 := NB461_462.out; have hnc26 := NB462_461.out; have hcz27_0 : w22.cell? ⟨gb461, 0, none⟩ = some (.int .i64 0) := (blk_cell BK461.out 0).trans rfl; have hcz27_1 : w22.cell? ⟨gb461, 1, none⟩ = some (.int .i64 0) := (blk_cell BK461.out 1).trans rfl; have hcz27_2 : w22.cell? ⟨gb461, 2, none⟩ = some (.int .i64 0) := (blk_cell BK461.out 2).trans rfl; have hcz27_3 : w22.cell? ⟨gb461, 3, none⟩ = some (.int .i64 0) := (blk_cell BK461.out 3).trans rfl; have hfz27_0 := blk_frozen BK461.out 0; have hfz27_1 := blk_frozen BK461.out 1; have hfz27_2 := blk_frozen BK461.out 2; have hfz27_3 := blk_frozen BK461.out 3; have hnb28 := NB462_449.out; have hnc28 := NB449_462.out; have hnb29 := NB462_450.out; have hnc29 := NB450_462.out; have hnb30 := NB462_451.out; have hnc30 := NB451_462.out; have hcz31_0 : w22.cell? ⟨gb462, 0, none⟩ = some (.int .i64 0) := (blk_cell BK462.out 0).trans rfl; have hcz31_1 : w22.cell? ⟨gb462, 1, none⟩ = some (.int .i64 0) := (blk_cell BK462.out 1).trans rfl; have hcz31_2 : w22.cell? ⟨gb462, 2, none⟩ = some (.int .i64 0) := (blk_cell BK462.out 2).trans rfl; have hcz31_3 : w22.cell? ⟨gb462, 3, none⟩ = some (.int .i64 0) := (blk_cell BK462.out 3).trans rfl; have hfz31_0 := blk_frozen BK462.out 0; have hfz31_1 := blk_frozen BK462.out 1; have hfz31_2 := blk_frozen BK462.out 2; have hfz31_3 := blk_frozen BK462.out 3))
  repeat (go_quiet (first | ((with_reducible refine gate_dst (N := 3) rfl ?_); refine box_event ?hg (N := 3) ?hd (cs := #[.slice A0_0 l0_0.length c0_0, .slice A0_1 l0_1.length c0_1, .slice A0_2 l0_2.length c0_2]) (t := 25) ?hr ?_; (case hd => rfl); (case hg => rfl); (case hr => first | (go_simp; done) | (go_simp; rfl)); intro gb449 hg w7 hbox hb; have n0_ := Aside0.mk (below_step (bl_ HB.out) hb); have n1_ := Aside0.mk (hbox); have n2_ := Aside0.mk (szl_ hg HB.out); have n3_ := Aside0.mk (szl_ hg HB.out); clear HB; have HB := n0_; have BK449 := n1_; have GW449 := n2_; have GE449 := n3_; clear n0_ n1_ n2_ n3_ hb hbox hg) | ((with_reducible refine gate_dst (N := 4) rfl ?_); refine box_event ?hg (N := 4) ?hd (cs := #[.int .i64 a1_0, .int .i64 a1_1]) (t := 27) ?hr ?_; (case hd => rfl); (case hg => rfl); (case hr => first | (go_simp; done) | (go_simp; rfl)); intro gb450 hg w8 hbox hb; have n0_ := Aside0.mk (blk_below (bk_ BK449.out) hb); have n1_ := Aside0.mk (below_step (bl_ HB.out) hb); have n2_ := Aside0.mk (hbox); have n3_ := Aside0.mk (szl_ hg HB.out); have n4_ := Aside0.mk (szl_ hg HB.out); have n5_ := Aside0.mk (nel_ hg BK449.out); have n6_ := Aside0.mk (ner_ hg BK449.out); clear BK449 HB; have BK449 := n0_; have HB := n1_; have BK450 := n2_; have GW450 := n3_; have GE450 := n4_; have NB449_450 := n5_; have NB450_449 := n6_; clear n0_ n1_ n2_ n3_ n4_ n5_ n6_ hb hbox hg) | ((with_reducible refine gate_dst (N := 5) rfl ?_); refine box_event ?hg (N := 5) ?hd (cs := #[.int .i64 a2_0, .int .i64 a2_1]) (t := 27) ?hr ?_; (case hd => rfl); (case hg => rfl); (case hr => first | (go_simp; done) | (go_simp; rfl)); intro gb451 hg w9 hbox hb; have n0_ := Aside0.mk (blk_below (bk_ BK449.out) hb); have n1_ := Aside0.mk (blk_below (bk_ BK450.out) hb); have n2_ := Aside0.mk (below_step (bl_ HB.out) hb); have n3_ := Aside0.mk (hbox); have n4_ := Aside0.mk (szl_ hg HB.out); have n5_ := Aside0.mk (szl_ hg HB.out); have n6_ := Aside0.mk (nel_ hg BK449.out); have n7_ := Aside0.mk (ner_ hg BK449.out); have n8_ := Aside0.mk (nel_ hg BK450.out); have n9_ := Aside0.mk (ner_ hg BK450.out); clear BK449 BK450 HB; have BK449 := n0_; have BK450 := n1_; have HB := n2_; have BK451 := n3_; have GW451 := n4_; have GE451 := n5_; have NB449_451 := n6_; have NB451_449 := n7_; have NB450_451 := n8_; have NB451_450 := n9_; clear n0_ n1_ n2_ n3_ n4_ n5_ n6_ n7_ n8_ n9_ hb hbox hg; have hnb10 := NB449_450.out; have hnc10 := NB450_449.out; have hnb11 := NB449_451.out; have hnc11 := NB451_449.out; have hcz12_0 : w9.cell? ⟨gb449, 0, none⟩ = some (.slice A0_0 l0_0.length c0_0) := (blk_cell BK449.out 0).trans rfl; have hcz12_1 : w9.cell? ⟨gb449, 1, none⟩ = some (.slice A0_1 l0_1.length c0_1) := (blk_cell BK449.out 1).trans rfl; have hcz12_2 : w9.cell? ⟨gb449, 2, none⟩ = some (.slice A0_2 l0_2.length c0_2) := (blk_cell BK449.out 2).trans rfl; have hfz12_0 := blk_frozen BK449.out 0; have hfz12_1 := blk_frozen BK449.out 1; have hfz12_2 := blk_frozen BK449.out 2; have hnb13 := NB450_451.out; have hnc13 := NB451_450.out; have hcz14_0 : w9.cell? ⟨gb450, 0, none⟩ = some (.int .i64 a1_0) := (blk_cell BK450.out 0).trans rfl; have hcz14_1 : w9.cell? ⟨gb450, 1, none⟩ = some (.int .i64 a1_1) := (blk_cell BK450.out 1).trans rfl; have hfz14_0 := blk_frozen BK450.out 0; have hfz14_1 := blk_frozen BK450.out 1; have hcz15_0 : w9.cell? ⟨gb451, 0, none⟩ = some (.int .i64 a2_0) := (blk_cell BK451.out 0).trans rfl; have hcz15_1 : w9.cell? ⟨gb451, 1, none⟩ = some (.int .i64 a2_1) := (blk_cell BK451.out 1).trans rfl; have hfz15_0 := blk_frozen BK451.out 0; have hfz15_1 := blk_frozen BK451.out 1) | (go_at_call 88; (with_reducible refine (spans_checkPoints.calls _ _ l0_0 _ _ l0_1 _ _ l0_2 a1_0 a1_1 a2_0 a2_1 t452 _ ?side1 ?side2 ?side3 ?side4 ?side5 ?side6 A4.out).mono ?_); (case side1 => exact cr_ (Kd.C_below HR0_0.out HB.out)); (case side2 => exact HC0_0.out); (case side3 => exact cr_ (Kd.C_below HR0_1.out HB.out)); (case side4 => exact HC0_1.out); (case side5 => exact cr_ (Kd.C_below HR0_2.out HB.out)); (case side6 => exact HC0_2.out); rintro e w16 ⟨rfl, hb⟩; have n0_ := Aside0.mk (blk_below (bk_ BK449.out) hb); have n1_ := Aside0.mk (blk_below (bk_ BK450.out) hb); have n2_ := Aside0.mk (blk_below (bk_ BK451.out) hb); have n3_ := Aside0.mk (below_step (bl_ HB.out) hb); clear BK449 BK450 BK451 HB; have BK449 := n0_; have BK450 := n1_; have BK451 := n2_; have HB := n3_; clear n0_ n1_ n2_ n3_; (try clear hb); (try clear hb2); (try clear hk); (try clear hi); have hcz17_0 : w16.cell? ⟨gb449, 0, none⟩ = some (.slice A0_0 l0_0.length c0_0) := (blk_cell BK449.out 0).trans rfl; have hcz17_1 : w16.cell? ⟨gb449, 1, none⟩ = some (.slice A0_1 l0_1.length c0_1) := (blk_cell BK449.out 1).trans rfl; have hcz17_2 : w16.cell? ⟨gb449, 2, none⟩ = some (.slice A0_2 l0_2.length c0_2) := (blk_cell BK449.out 2).trans rfl; have hfz17_0 := blk_frozen BK449.out 0; have hfz17_1 := blk_frozen BK449.out 1; have hfz17_2 := blk_frozen BK449.out 2; have hcz18_0 : w16.cell? ⟨gb450, 0, none⟩ = some (.int .i64 a1_0) := (blk_cell BK450.out 0).trans rfl; have hcz18_1 : w16.cell? ⟨gb450, 1, none⟩ = some (.int .i64 a1_1) := (blk_cell BK450.out 1).trans rfl; have hfz18_0 := blk_frozen BK450.out 0; have hfz18_1 := blk_frozen BK450.out 1; have hcz19_0 : w16.cell? ⟨gb451, 0, none⟩ = some (.int .i64 a2_0) := (blk_cell BK451.out 0).trans rfl; have hcz19_1 : w16.cell? ⟨gb451, 1, none⟩ = some (.int .i64 a2_1) := (blk_cell BK451.out 1).trans rfl; have hfz19_0 := blk_frozen BK451.out 0; have hfz19_1 := blk_frozen BK451.out 1) | (go_at_call 89; (with_reducible refine (spans_extremes.calls _ _ l0_0 _ _ l0_1 _ _ l0_2 a1_0 a1_1 a2_0 a2_1 t453 t454 t455 t456 t457 t458 t459 t460 _ ?side1 ?side2 ?side3 ?side4 ?side5 ?side6 A6.out).mono ?_); (case side1 => exact cr_ (Kd.C_below HR0_0.out HB.out)); (case side2 => exact HC0_0.out); (case side3 => exact cr_ (Kd.C_below HR0_1.out HB.out)); (case side4 => exact HC0_1.out); (case side5 => exact cr_ (Kd.C_below HR0_2.out HB.out)); (case side6 => exact HC0_2.out); rintro e w20 ⟨rfl, hb⟩; have n0_ := Aside0.mk (blk_below (bk_ BK449.out) hb); have n1_ := Aside0.mk (blk_below (bk_ BK450.out) hb); have n2_ := Aside0.mk (blk_below (bk_ BK451.out) hb); have n3_ := Aside0.mk (below_step (bl_ HB.out) hb); clear BK449 BK450 BK451 HB; have BK449 := n0_; have BK450 := n1_; have BK451 := n2_; have HB := n3_; clear n0_ n1_ n2_ n3_; (try clear hb); (try clear hb2); (try clear hk); (try clear hi)) | ((with_reducible refine gate_dst (N := 10) rfl ?_); refine box_event ?hg (N := 10) ?hd (cs := #[.int .i64 0, .int .i64 0, .int .i64 0, .int .i64 0]) (t := 133) ?hr ?_; (case hd => rfl); (case hg => rfl); (case hr => first | (go_simp; done) | (go_simp; rfl)); intro gb461 hg w21 hbox hb; have n0_ := Aside0.mk (blk_below (bk_ BK449.out) hb); have n1_ := Aside0.mk (blk_below (bk_ BK450.out) hb); have n2_ := Aside0.mk (blk_below (bk_ BK451.out) hb); have n3_ := Aside0.mk (below_step (bl_ HB.out) hb); have n4_ := Aside0.mk (hbox); have n5_ := Aside0.mk (szl_ hg HB.out); have n6_ := Aside0.mk (szl_ hg HB.out); have n7_ := Aside0.mk (nel_ hg BK449.out); have n8_ := Aside0.mk (ner_ hg BK449.out); have n9_ := Aside0.mk (nel_ hg BK450.out); have n10_ := Aside0.mk (ner_ hg BK450.out); have n11_ := Aside0.mk (nel_ hg BK451.out); have n12_ := Aside0.mk (ner_ hg BK451.out); clear BK449 BK450 BK451 HB; have BK449 := n0_; have BK450 := n1_; have BK451 := n2_; have HB := n3_; have BK461 := n4_; have GW461 := n5_; have GE461 := n6_; have NB449_461 := n7_; have NB461_449 := n8_; have NB450_461 := n9_; have NB461_450 := n10_; have NB451_461 := n11_; have NB461_451 := n12_; clear n0_ n1_ n2_ n3_ n4_ n5_ n6_ n7_ n8_ n9_ n10_ n11_ n12_ hb hbox hg) | ((with_reducible refine gate_dst (N := 11) rfl ?_); refine box_event ?hg (N := 11) ?hd (cs := #[.int .i64 0, .int .i64 0, .int .i64 0, .int .i64 0]) (t := 133) ?hr ?_; (case hd => rfl); (case hg => rfl); (case hr => first | (go_simp; done) | (go_simp; rfl)); intro gb462 hg w22 hbox hb; have n0_ := Aside0.mk (blk_below (bk_ BK449.out) hb); have n1_ := Aside0.mk (blk_below (bk_ BK450.out) hb); have n2_ := Aside0.mk (blk_below (bk_ BK451.out) hb); have n3_ := Aside0.mk (blk_below (bk_ BK461.out) hb); have n4_ := Aside0.mk (below_step (bl_ HB.out) hb); have n5_ := Aside0.mk (hbox); have n6_ := Aside0.mk (szl_ hg HB.out); have n7_ := Aside0.mk (szl_ hg HB.out); have n8_ := Aside0.mk (nel_ hg BK449.out); have n9_ := Aside0.mk (ner_ hg BK449.out); have n10_ := Aside0.mk (nel_ hg BK450.out); have n11_ := Aside0.mk (ner_ hg BK450.out); have n12_ := Aside0.mk (nel_ hg BK451.out); have n13_ := Aside0.mk (ner_ hg BK451.out); have n14_ := Aside0.mk (nel_ hg BK461.out); have n15_ := Aside0.mk (ner_ hg BK461.out); clear BK449 BK450 BK451 BK461 HB; have BK449 := n0_; have BK450 := n1_; have BK451 := n2_; have BK461 := n3_; have HB := n4_; have BK462 := n5_; have GW462 := n6_; have GE462 := n7_; have NB449_462 := n8_; have NB462_449 := n9_; have NB450_462 := n10_; have NB462_450 := n11_; have NB451_462 := n12_; have NB462_451 := n13_; have NB461_462 := n14_; have NB462_461 := n15_; clear n0_ n1_ n2_ n3_ n4_ n5_ n6_ n7_ n8_ n9_ n10_ n11_ n12_ n13_ n14_ n15_ hb hbox hg; have hnb23 := NB461_449.out; have hnc23 := NB449_461.out; have hnb24 := NB461_450.out; have hnc24 := NB450_461.out; have hnb25 := NB461_451.out; have hnc25 := NB451_461.out; have hnb26 := NB461_462.out; have hnc26 := NB462_461.out; have hcz27_0 : w22.cell? ⟨gb461, 0, none⟩ = some (.int .i64 0) := (blk_cell BK461.out 0).trans rfl; have hcz27_1 : w22.cell? ⟨gb461, 1, none⟩ = some (.int .i64 0) := (blk_cell BK461.out 1).trans rfl; have hcz27_2 : w22.cell? ⟨gb461, 2, none⟩ = some (.int .i64 0) := (blk_cell BK461.out 2).trans rfl; have hcz27_3 : w22.cell? ⟨gb461, 3, none⟩ = some (.int .i64 0) := (blk_cell BK461.out 3).trans rfl; have hfz27_0 := blk_frozen BK461.out 0; have hfz27_1 := blk_frozen BK461.out 1; have hfz27_2 := blk_frozen BK461.out 2; have hfz27_3 := blk_frozen BK461.out 3; have hnb28 := NB462_449.out; have hnc28 := NB449_462.out; have hnb29 := NB462_450.out; have hnc29 := NB450_462.out; have hnb30 := NB462_451.out; have hnc30 := NB451_462.out; have hcz31_0 : w22.cell? ⟨gb462, 0, none⟩ = some (.int .i64 0) := (blk_cell BK462.out 0).trans rfl; have hcz31_1 : w22.cell? ⟨gb462, 1, none⟩ = some (.int .i64 0) := (blk_cell BK462.out 1).trans rfl; have hcz31_2 : w22.cell? ⟨gb462, 2, none⟩ = some (.int .i64 0) := (blk_cell BK462.out 2).trans rfl; have hcz31_3 : w22.cell? ⟨gb462, 3, none⟩ = some (.int .i64 0) := (blk_cell BK462.out 3).trans rfl; have hfz31_0 := blk_frozen BK462.out 0; have hfz31_1 := blk_frozen BK462.out 1; have hfz31_2 := blk_frozen BK462.out 2; have hfz31_3 := blk_frozen BK462.out 3)); try go_wp2_with (first | ((with_reducible refine gate_dst (N := 3) rfl ?_); refine box_event ?hg (N := 3) ?hd (cs := #[.slice A0_0 l0_0.length c0_0, .slice A0_1 l0_1.length c0_1, .slice A0_2 l0_2.length c0_2]) (t := 25) ?hr ?_; (case hd => rfl); (case hg => rfl); (case hr => first | (go_simp; done) | (go_simp; rfl)); intro gb449 hg w7 hbox hb; have n0_ := Aside0.mk (below_step (bl_ HB.out) hb); have n1_ := Aside0.mk (hbox); have n2_ := Aside0.mk (szl_ hg HB.out); have n3_ := Aside0.mk (szl_ hg HB.out); clear HB; have HB := n0_; have BK449 := n1_; have GW449 := n2_; have GE449 := n3_; clear n0_ n1_ n2_ n3_ hb hbox hg) | ((with_reducible refine gate_dst (N := 4) rfl ?_); refine box_event ?hg (N := 4) ?hd (cs := #[.int .i64 a1_0, .int .i64 a1_1]) (t := 27) ?hr ?_; (case hd => rfl); (case hg => rfl); (case hr => first | (go_simp; done) | (go_simp; rfl)); intro gb450 hg w8 hbox hb; have n0_ := Aside0.mk (blk_below (bk_ BK449.out) hb); have n1_ := Aside0.mk (below_step (bl_ HB.out) hb); have n2_ := Aside0.mk (hbox); have n3_ := Aside0.mk (szl_ hg HB.out); have n4_ := Aside0.mk (szl_ hg HB.out); have n5_ := Aside0.mk (nel_ hg BK449.out); have n6_ := Aside0.mk (ner_ hg BK449.out); clear BK449 HB; have BK449 := n0_; have HB := n1_; have BK450 := n2_; have GW450 := n3_; have GE450 := n4_; have NB449_450 := n5_; have NB450_449 := n6_; clear n0_ n1_ n2_ n3_ n4_ n5_ n6_ hb hbox hg) | ((with_reducible refine gate_dst (N := 5) rfl ?_); refine box_event ?hg (N := 5) ?hd (cs := #[.int .i64 a2_0, .int .i64 a2_1]) (t := 27) ?hr ?_; (case hd => rfl); (case hg => rfl); (case hr => first | (go_simp; done) | (go_simp; rfl)); intro gb451 hg w9 hbox hb; have n0_ := Aside0.mk (blk_below (bk_ BK449.out) hb); have n1_ := Aside0.mk (blk_below (bk_ BK450.out) hb); have n2_ := Aside0.mk (below_step (bl_ HB.out) hb); have n3_ := Aside0.mk (hbox); have n4_ := Aside0.mk (szl_ hg HB.out); have n5_ := Aside0.mk (szl_ hg HB.out); have n6_ := Aside0.mk (nel_ hg BK449.out); have n7_ := Aside0.mk (ner_ hg BK449.out); have n8_ := Aside0.mk (nel_ hg BK450.out); have n9_ := Aside0.mk (ner_ hg BK450.out); clear BK449 BK450 HB; have BK449 := n0_; have BK450 := n1_; have HB := n2_; have BK451 := n3_; have GW451 := n4_; have GE451 := n5_; have NB449_451 := n6_; have NB451_449 := n7_; have NB450_451 := n8_; have NB451_450 := n9_; clear n0_ n1_ n2_ n3_ n4_ n5_ n6_ n7_ n8_ n9_ hb hbox hg; have hnb10 := NB449_450.out; have hnc10 := NB450_449.out; have hnb11 := NB449_451.out; have hnc11 := NB451_449.out; have hcz12_0 : w9.cell? ⟨gb449, 0, none⟩ = some (.slice A0_0 l0_0.length c0_0) := (blk_cell BK449.out 0).trans rfl; have hcz12_1 : w9.cell? ⟨gb449, 1, none⟩ = some (.slice A0_1 l0_1.length c0_1) := (blk_cell BK449.out 1).trans rfl; have hcz12_2 : w9.cell? ⟨gb449, 2, none⟩ = some (.slice A0_2 l0_2.length c0_2) := (blk_cell BK449.out 2).trans rfl; have hfz12_0 := blk_frozen BK449.out 0; have hfz12_1 := blk_frozen BK449.out 1; have hfz12_2 := blk_frozen BK449.out 2; have hnb13 := NB450_451.out; have hnc13 := NB451_450.out; have hcz14_0 : w9.cell? ⟨gb450, 0, none⟩ = some (.int .i64 a1_0) := (blk_cell BK450.out 0).trans rfl; have hcz14_1 : w9.cell? ⟨gb450, 1, none⟩ = some (.int .i64 a1_1) := (blk_cell BK450.out 1).trans rfl; have hfz14_0 := blk_frozen BK450.out 0; have hfz14_1 := blk_frozen BK450.out 1; have hcz15_0 : w9.cell? ⟨gb451, 0, none⟩ = some (.int .i64 a2_0) := (blk_cell BK451.out 0).trans rfl; have hcz15_1 : w9.cell? ⟨gb451, 1, none⟩ = some (.int .i64 a2_1) := (blk_cell BK451.out 1).trans rfl; have hfz15_0 := blk_frozen BK451.out 0; have hfz15_1 := blk_frozen BK451.out 1) | (go_at_call 88; (with_reducible refine (spans_checkPoints.calls _ _ l0_0 _ _ l0_1 _ _ l0_2 a1_0 a1_1 a2_0 a2_1 t452 _ ?side1 ?side2 ?side3 ?side4 ?side5 ?side6 A4.out).mono ?_); (case side1 => exact cr_ (Kd.C_below HR0_0.out HB.out)); (case side2 => exact HC0_0.out); (case side3 => exact cr_ (Kd.C_below HR0_1.out HB.out)); (case side4 => exact HC0_1.out); (case side5 => exact cr_ (Kd.C_below HR0_2.out HB.out)); (case side6 => exact HC0_2.out); rintro e w16 ⟨rfl, hb⟩; have n0_ := Aside0.mk (blk_below (bk_ BK449.out) hb); have n1_ := Aside0.mk (blk_below (bk_ BK450.out) hb); have n2_ := Aside0.mk (blk_below (bk_ BK451.out) hb); have n3_ := Aside0.mk (below_step (bl_ HB.out) hb); clear BK449 BK450 BK451 HB; have BK449 := n0_; have BK450 := n1_; have BK451 := n2_; have HB := n3_; clear n0_ n1_ n2_ n3_; (try clear hb); (try clear hb2); (try clear hk); (try clear hi); have hcz17_0 : w16.cell? ⟨gb449, 0, none⟩ = some (.slice A0_0 l0_0.length c0_0) := (blk_cell BK449.out 0).trans rfl; have hcz17_1 : w16.cell? ⟨gb449, 1, none⟩ = some (.slice A0_1 l0_1.length c0_1) := (blk_cell BK449.out 1).trans rfl; have hcz17_2 : w16.cell? ⟨gb449, 2, none⟩ = some (.slice A0_2 l0_2.length c0_2) := (blk_cell BK449.out 2).trans rfl; have hfz17_0 := blk_frozen BK449.out 0; have hfz17_1 := blk_frozen BK449.out 1; have hfz17_2 := blk_frozen BK449.out 2; have hcz18_0 : w16.cell? ⟨gb450, 0, none⟩ = some (.int .i64 a1_0) := (blk_cell BK450.out 0).trans rfl; have hcz18_1 : w16.cell? ⟨gb450, 1, none⟩ = some (.int .i64 a1_1) := (blk_cell BK450.out 1).trans rfl; have hfz18_0 := blk_frozen BK450.out 0; have hfz18_1 := blk_frozen BK450.out 1; have hcz19_0 : w16.cell? ⟨gb451, 0, none⟩ = some (.int .i64 a2_0) := (blk_cell BK451.out 0).trans rfl; have hcz19_1 : w16.cell? ⟨gb451, 1, none⟩ = some (.int .i64 a2_1) := (blk_cell BK451.out 1).trans rfl; have hfz19_0 := blk_frozen BK451.out 0; have hfz19_1 := blk_frozen BK451.out 1) | (go_at_call 89; (with_reducible refine (spans_extremes.calls _ _ l0_0 _ _ l0_1 _ _ l0_2 a1_0 a1_1 a2_0 a2_1 t453 t454 t455 t456 t457 t458 t459 t460 _ ?side1 ?side2 ?side3 ?side4 ?side5 ?side6 A6.out).mono ?_); (case side1 => exact cr_ (Kd.C_below HR0_0.out HB.out)); (case side2 => exact HC0_0.out); (case side3 => exact cr_ (Kd.C_below HR0_1.out HB.out)); (case side4 => exact HC0_1.out); (case side5 => exact cr_ (Kd.C_below HR0_2.out HB.out)); (case side6 => exact HC0_2.out); rintro e w20 ⟨rfl, hb⟩; have n0_ := Aside0.mk (blk_below (bk_ BK449.out) hb); have n1_ := Aside0.mk (blk_below (bk_ BK450.out) hb); have n2_ := Aside0.mk (blk_below (bk_ BK451.out) hb); have n3_ := Aside0.mk (below_step (bl_ HB.out) hb); clear BK449 BK450 BK451 HB; have BK449 := n0_; have BK450 := n1_; have BK451 := n2_; have HB := n3_; clear n0_ n1_ n2_ n3_; (try clear hb); (try clear hb2); (try clear hk); (try clear hi)) | ((with_reducible refine gate_dst (N := 10) rfl ?_); refine box_event ?hg (N := 10) ?hd (cs := #[.int .i64 0, .int .i64 0, .int .i64 0, .int .i64 0]) (t := 133) ?hr ?_; (case hd => rfl); (case hg => rfl); (case hr => first | (go_simp; done) | (go_simp; rfl)); intro gb461 hg w21 hbox hb; have n0_ := Aside0.mk (blk_below (bk_ BK449.out) hb); have n1_ := Aside0.mk (blk_below (bk_ BK450.out) hb); have n2_ := Aside0.mk (blk_below (bk_ BK451.out) hb); have n3_ := Aside0.mk (below_step (bl_ HB.out) hb); have n4_ := Aside0.mk (hbox); have n5_ := Aside0.mk (szl_ hg HB.out); have n6_ := Aside0.mk (szl_ hg HB.out); have n7_ := Aside0.mk (nel_ hg BK449.out); have n8_ := Aside0.mk (ner_ hg BK449.out); have n9_ := Aside0.mk (nel_ hg BK450.out); have n10_ := Aside0.mk (ner_ hg BK450.out); have n11_ := Aside0.mk (nel_ hg BK451.out); have n12_ := Aside0.mk (ner_ hg BK451.out); clear BK449 BK450 BK451 HB; have BK449 := n0_; have BK450 := n1_; have BK451 := n2_; have HB := n3_; have BK461 := n4_; have GW461 := n5_; have GE461 := n6_; have NB449_461 := n7_; have NB461_449 := n8_; have NB450_461 := n9_; have NB461_450 := n10_; have NB451_461 := n11_; have NB461_451 := n12_; clear n0_ n1_ n2_ n3_ n4_ n5_ n6_ n7_ n8_ n9_ n10_ n11_ n12_ hb hbox hg) | ((with_reducible refine gate_dst (N := 11) rfl ?_); refine box_event ?hg (N := 11) ?hd (cs := #[.int .i64 0, .int .i64 0, .int .i64 0, .int .i64 0]) (t := 133) ?hr ?_; (case hd => rfl); (case hg => rfl); (case hr => first | (go_simp; done) | (go_simp; rfl)); intro gb462 hg w22 hbox hb; have n0_ := Aside0.mk (blk_below (bk_ BK449.out) hb); have n1_ := Aside0.mk (blk_below (bk_ BK450.out) hb); have n2_ := Aside0.mk (blk_below (bk_ BK451.out) hb); have n3_ := Aside0.mk (blk_below (bk_ BK461.out) hb); have n4_ := Aside0.mk (below_step (bl_ HB.out) hb); have n5_ := Aside0.mk (hbox); have n6_ := Aside0.mk (szl_ hg HB.out); have n7_ := Aside0.mk (szl_ hg HB.out); have n8_ := Aside0.mk (nel_ hg BK449.out); have n9_ := Aside0.mk (ner_ hg BK449.out); have n10_ := Aside0.mk (nel_ hg BK450.out); have n11_ := Aside0.mk (ner_ hg BK450.out); have n12_ := Aside0.mk (nel_ hg BK451.out); have n13_ := Aside0.mk (ner_ hg BK451.out); have n14_ := Aside0.mk (nel_ hg BK461.out); have n15_ := Aside0.mk (ner_ hg BK461.out); clear BK449 BK450 BK451 BK461 HB; have BK449 := n0_; have BK450 := n1_; have BK451 := n2_; have BK461 := n3_; have HB := n4_; have BK462 := n5_; have GW462 := n6_; have GE462 := n7_; have NB449_462 := n8_; have NB462_449 := n9_; have NB450_462 := n10_; have NB462_450 := n11_; have NB451_462 := n12_; have NB462_451 := n13_; have NB461_462 := n14_; have NB462_461 := n15_; clear n0_ n1_ n2_ n3_ n4_ n5_ n6_ n7_ n8_ n9_ n10_ n11_ n12_ n13_ n14_ n15_ hb hbox hg; have hnb23 := NB461_449.out; have hnc23 := NB449_461.out; have hnb24 := NB461_450.out; have hnc24 := NB450_461.out; have hnb25 := NB461_451.out; have hnc25 := NB451_461.out; have hnb26 := NB461_462.out; have hnc26 := NB462_461.out; have hcz27_0 : w22.cell? ⟨gb461, 0, none⟩ = some (.int .i64 0) := (blk_cell BK461.out 0).trans rfl; have hcz27_1 : w22.cell? ⟨gb461, 1, none⟩ = some (.int .i64 0) := (blk_cell BK461.out 1).trans rfl; have hcz27_2 : w22.cell? ⟨gb461, 2, none⟩ = some (.int .i64 0) := (blk_cell BK461.out 2).trans rfl; have hcz27_3 : w22.cell? ⟨gb461, 3, none⟩ = some (.int .i64 0) := (blk_cell BK461.out 3).trans rfl; have hfz27_0 := blk_frozen BK461.out 0; have hfz27_1 := blk_frozen BK461.out 1; have hfz27_2 := blk_frozen BK461.out 2; have hfz27_3 := blk_frozen BK461.out 3; have hnb28 := NB462_449.out; have hnc28 := NB449_462.out; have hnb29 := NB462_450.out; have hnc29 := NB450_462.out; have hnb30 := NB462_451.out; have hnc30 := NB451_462.out; have hcz31_0 : w22.cell? ⟨gb462, 0, none⟩ = some (.int .i64 0) := (blk_cell BK462.out 0).trans rfl; have hcz31_1 : w22.cell? ⟨gb462, 1, none⟩ = some (.int .i64 0) := (blk_cell BK462.out 1).trans rfl; have hcz31_2 : w22.cell? ⟨gb462, 2, none⟩ = some (.int .i64 0) := (blk_cell BK462.out 2).trans rfl; have hcz31_3 : w22.cell? ⟨gb462, 3, none⟩ = some (.int .i64 0) := (blk_cell BK462.out 3).trans rfl; have hfz31_0 := blk_frozen BK462.out 0; have hfz31_1 := blk_frozen BK462.out 1; have hfz31_2 := blk_frozen BK462.out 2; have hfz31_3 := blk_frozen BK462.out 3)))
  go_ret3
  exact ⟨by first | rfl | (simp [errW_none, errW_some] <;> rfl) | (simp [*, errW_none, errW_some] <;> rfl), bl_ HB.out⟩
 ·
  rw [if_neg c5] at H
  have c5b0 : (t452 == 0) = false := beq_eq_false_iff_ne.mpr c5
  have c5b1 : (t452 != 0) = true := bne_iff_ne.mpr c5
  simp only [Option.some.injEq, Prod.mk.injEq] at H
  obtain ⟨rfl, rfl, rfl⟩ := H
  go_enter Try.func32, Try.ntmps32
  go_wp2_with (first | ((with_reducible refine gate_dst (N := 3) rfl ?_); refine box_event ?hg (N := 3) ?hd (cs := #[.slice A0_0 l0_0.length c0_0, .slice A0_1 l0_1.length c0_1, .slice A0_2 l0_2.length c0_2]) (t := 25) ?hr ?_; (case hd => rfl); (case hg => rfl); (case hr => first | (go_simp; done) | (go_simp; rfl)); intro gb449 hg w32 hbox hb; have n0_ := Aside0.mk (below_step (bl_ HB.out) hb); have n1_ := Aside0.mk (hbox); have n2_ := Aside0.mk (szl_ hg HB.out); have n3_ := Aside0.mk (szl_ hg HB.out); clear HB; have HB := n0_; have BK449 := n1_; have GW449 := n2_; have GE449 := n3_; clear n0_ n1_ n2_ n3_ hb hbox hg) | ((with_reducible refine gate_dst (N := 4) rfl ?_); refine box_event ?hg (N := 4) ?hd (cs := #[.int .i64 a1_0, .int .i64 a1_1]) (t := 27) ?hr ?_; (case hd => rfl); (case hg => rfl); (case hr => first | (go_simp; done) | (go_simp; rfl)); intro gb450 hg w33 hbox hb; have n0_ := Aside0.mk (blk_below (bk_ BK449.out) hb); have n1_ := Aside0.mk (below_step (bl_ HB.out) hb); have n2_ := Aside0.mk (hbox); have n3_ := Aside0.mk (szl_ hg HB.out); have n4_ := Aside0.mk (szl_ hg HB.out); have n5_ := Aside0.mk (nel_ hg BK449.out); have n6_ := Aside0.mk (ner_ hg BK449.out); clear BK449 HB; have BK449 := n0_; have HB := n1_; have BK450 := n2_; have GW450 := n3_; have GE450 := n4_; have NB449_450 := n5_; have NB450_449 := n6_; clear n0_ n1_ n2_ n3_ n4_ n5_ n6_ hb hbox hg) | ((with_reducible refine gate_dst (N := 5) rfl ?_); refine box_event ?hg (N := 5) ?hd (cs := #[.int .i64 a2_0, .int .i64 a2_1]) (t := 27) ?hr ?_; (case hd => rfl); (case hg => rfl); (case hr => first | (go_simp; done) | (go_simp; rfl)); intro gb451 hg w34 hbox hb; have n0_ := Aside0.mk (blk_below (bk_ BK449.out) hb); have n1_ := Aside0.mk (blk_below (bk_ BK450.out) hb); have n2_ := Aside0.mk (below_step (bl_ HB.out) hb); have n3_ := Aside0.mk (hbox); have n4_ := Aside0.mk (szl_ hg HB.out); have n5_ := Aside0.mk (szl_ hg HB.out); have n6_ := Aside0.mk (nel_ hg BK449.out); have n7_ := Aside0.mk (ner_ hg BK449.out); have n8_ := Aside0.mk (nel_ hg BK450.out); have n9_ := Aside0.mk (ner_ hg BK450.out); clear BK449 BK450 HB; have BK449 := n0_; have BK450 := n1_; have HB := n2_; have BK451 := n3_; have GW451 := n4_; have GE451 := n5_; have NB449_451 := n6_; have NB451_449 := n7_; have NB450_451 := n8_; have NB451_450 := n9_; clear n0_ n1_ n2_ n3_ n4_ n5_ n6_ n7_ n8_ n9_ hb hbox hg; have hnb35 := NB449_450.out; have hnc35 := NB450_449.out; have hnb36 := NB449_451.out; have hnc36 := NB451_449.out; have hcz37_0 : w34.cell? ⟨gb449, 0, none⟩ = some (.slice A0_0 l0_0.length c0_0) := (blk_cell BK449.out 0).trans rfl; have hcz37_1 : w34.cell? ⟨gb449, 1, none⟩ = some (.slice A0_1 l0_1.length c0_1) := (blk_cell BK449.out 1).trans rfl; have hcz37_2 : w34.cell? ⟨gb449, 2, none⟩ = some (.slice A0_2 l0_2.length c0_2) := (blk_cell BK449.out 2).trans rfl; have hfz37_0 := blk_frozen BK449.out 0; have hfz37_1 := blk_frozen BK449.out 1; have hfz37_2 := blk_frozen BK449.out 2; have hnb38 := NB450_451.out; have hnc38 := NB451_450.out; have hcz39_0 : w34.cell? ⟨gb450, 0, none⟩ = some (.int .i64 a1_0) := (blk_cell BK450.out 0).trans rfl; have hcz39_1 : w34.cell? ⟨gb450, 1, none⟩ = some (.int .i64 a1_1) := (blk_cell BK450.out 1).trans rfl; have hfz39_0 := blk_frozen BK450.out 0; have hfz39_1 := blk_frozen BK450.out 1; have hcz40_0 : w34.cell? ⟨gb451, 0, none⟩ = some (.int .i64 a2_0) := (blk_cell BK451.out 0).trans rfl; have hcz40_1 : w34.cell? ⟨gb451, 1, none⟩ = some (.int .i64 a2_1) := (blk_cell BK451.out 1).trans rfl; have hfz40_0 := blk_frozen BK451.out 0; have hfz40_1 := blk_frozen BK451.out 1) | (go_at_call 88; (with_reducible refine (spans_checkPoints.calls _ _ l0_0 _ _ l0_1 _ _ l0_2 a1_0 a1_1 a2_0 a2_1 t452 _ ?side1 ?side2 ?side3 ?side4 ?side5 ?side6 A4.out).mono ?_); (case side1 => exact cr_ (Kd.C_below HR0_0.out HB.out)); (case side2 => exact HC0_0.out); (case side3 => exact cr_ (Kd.C_below HR0_1.out HB.out)); (case side4 => exact HC0_1.out); (case side5 => exact cr_ (Kd.C_below HR0_2.out HB.out)); (case side6 => exact HC0_2.out); rintro e w41 ⟨rfl, hb⟩; have n0_ := Aside0.mk (blk_below (bk_ BK449.out) hb); have n1_ := Aside0.mk (blk_below (bk_ BK450.out) hb); have n2_ := Aside0.mk (blk_below (bk_ BK451.out) hb); have n3_ := Aside0.mk (below_step (bl_ HB.out) hb); clear BK449 BK450 BK451 HB; have BK449 := n0_; have BK450 := n1_; have BK451 := n2_; have HB := n3_; clear n0_ n1_ n2_ n3_; (try clear hb); (try clear hb2); (try clear hk); (try clear hi)))
  go_ret3
  exact ⟨by first | rfl | (simp [errW_none, errW_some] <;> rfl) | (simp [*, errW_none, errW_some] <;> rfl), bl_ HB.out⟩
end Go.Proofs.Yteodlmgmmpkpoaa.PS
end
section
namespace Go.Proofs.Yteodlmgmmpkpoaa.PS
open Go.RowKit Go.Proofs.YteodlmgmmpkpoaaW.PrintWords Go.Proofs.YteodlmgmmpkpoaaW.PrintLast Go.Proofs.YteodlmgmmpkpoaaW.PrintMore
attribute [local go_sem] max2_int min2_int max_two min_two max_three min_three max_four min_four   -- for this text's walks alone
set_option linter.unusedVariables false
set_option linter.unusedSimpArgs false
mutual
def swashplateref01_boundP.l0 : Nat → List Int → List Int → Int → List Int → List Int → List (List Int) → Int → Int → Option (Int × Int)
 | 0, _, _, _, _, _, _, _, _ => none
 | k + 1, x7, x8, x12, x406000, x406001, x406002, x422000, x422001 => if x12 < (x7.length : Int) then (swashplateref01_boundP.l1 k x7 x8 x12 0 x406000 x406001 x406002 x422000 x422001) else (some (x422000, x422001))
def swashplateref01_boundP.l1 : Nat → List Int → List Int → Int → Int → List Int → List Int → List (List Int) → Int → Int → Option (Int × Int)
 | 0, _, _, _, _, _, _, _, _, _ => none
 | k + 1, x7, x8, x12, x13, x406000, x406001, x406002, x422000, x422001 => if x13 < (x8.length : Int) then (if 0 ≤ x12 then (if x12 < (x7.length : Int) then (if 0 ≤ x13 then ((swashplateref01_Value.f x406000 x406001 x406002 (rd x7 x12) (rd x8 x13)).bind fun bt424 => ((swashplateref01_floor.f bt424.1 bt424.2).bind fun t426 => ((swashplateref01_ceil.f bt424.1 bt424.2).bind fun t427 => (swashplateref01_boundP.l1 k x7 x8 x12 (wrap64 (x13 + 1)) x406000 x406001 x406002 (mn x422000 t426) (mx x422001 t427))))) else (none)) else (none)) else (none)) else (swashplateref01_boundP.l0 k x7 x8 (wrap64 (x12 + 1)) x406000 x406001 x406002 x422000 x422001)
end
def swashplateref01_boundP.f (k : Nat) (l0_0 : List Int) (l0_1 : List Int) (l0_2 : List (List Int)) (a1_0 : Int) (a1_1 : Int) (a2_0 : Int) (a2_1 : Int) : Option (Int × Int) := (swashplateref01_corners.f k l0_0 a1_0 a1_1).bind fun t409 => ((swashplateref01_corners.f k l0_1 a2_0 a2_1).bind fun t412 => (if 0 < (t409.length : Int) then (if 0 < (t412.length : Int) then ((swashplateref01_Value.f l0_0 l0_1 l0_2 (rd t409 0) (rd t412 0)).bind fun bt417 => ((swashplateref01_floor.f bt417.1 bt417.2).bind fun t419 => ((swashplateref01_ceil.f bt417.1 bt417.2).bind fun t420 => (swashplateref01_boundP.l0 k t409 t412 0 l0_0 l0_1 l0_2 t419 t420)))) else (none)) else (none)))
def swashplateref01_boundP.T1 : Bool × List (List Nat × List Nat) := (true, [([], []), ([0], [0]), ([], []), ([1, 2], [1, 2]), ([], []), ([4], [4]), ([], []), ([5, 6, 3], [5, 6]), ([3, 7, 0, 1, 2, 3], [3]), ([7, 8, 0, 1, 2, 3, 4, 5, 6, 7, 8], [7])])
def swashplateref01_boundP.B1 : List Nat := [0, 1, 0, 7, 0, 16, 0, 127, 255, 511]
theorem swashplateref01_boundP.tab1 : rtab .any (opsOf Try.f92 1) = swashplateref01_boundP.T1 := by kernel_rfl
theorem swashplateref01_boundP.bits1 : waitsOk swashplateref01_boundP.T1.2 swashplateref01_boundP.B1 = true := by kernel_rfl
def swashplateref01_boundP.T2 : Bool × List (List Nat × List Nat) := (true, [([], []), ([], []), ([1], [1]), ([2], [2]), ([], []), ([4], [4]), ([5], [5]), ([0, 3, 6], [0, 3, 6]), ([7], [7]), ([8], [8]), ([8], [8]), ([9, 7, 0, 1, 2, 3, 4, 5, 6, 7, 8, 9], [9]), ([10, 11, 0, 1, 2, 3, 4, 5, 6, 7, 8, 9, 10, 11], [10])])
def swashplateref01_boundP.B2 : List Nat := [0, 0, 2, 6, 0, 16, 48, 127, 255, 511, 511, 1023, 4095]
theorem swashplateref01_boundP.tab2 : rtab .any (opsOf Try.f92 2) = swashplateref01_boundP.T2 := by kernel_rfl
theorem swashplateref01_boundP.bits2 : waitsOk swashplateref01_boundP.T2.2 swashplateref01_boundP.B2 = true := by kernel_rfl
def swashplateref01_boundP.T10 : Bool × List (List Nat × List Nat) := (true, [([], []), ([], []), ([], []), ([1, 2], [1, 2]), ([3], [3]), ([], []), ([], []), ([5, 6], [5, 6]), ([7], [7]), ([0, 4, 8], [0, 4, 8]), ([9], [9]), ([10], [10]), ([10], [10]), ([11, 9, 0, 1, 2, 3, 4, 5, 6, 7, 8, 9, 10, 11], [11]), ([12, 13, 0, 1, 2, 3, 4, 5, 6, 7, 8, 9, 10, 11, 12, 13], [12])])
def swashplateref01_boundP.B10 : List Nat := [0, 0, 0, 6, 14, 0, 0, 96, 224, 511, 1023, 2047, 2047, 4095, 16383]
theorem swashplateref01_boundP.tab10 : rtab .any (opsOf Try.f92 10) = swashplateref01_boundP.T10 := by kernel_rfl
theorem swashplateref01_boundP.bits10 : waitsOk swashplateref01_boundP.T10.2 swashplateref01_boundP.B10 = true := by kernel_rfl
def swashplateref01_boundP.T11 : Bool × List (List Nat × List Nat) := (true, [([], []), ([0], [0]), ([], []), ([], []), ([2, 3], [2, 3]), ([1, 4], [1, 4]), ([0, 1, 2, 3, 4, 5], []), ([6, 5, 4, 0, 1, 2, 3, 4, 5], [5, 6])])
def swashplateref01_boundP.B11 : List Nat := [0, 1, 0, 0, 12, 31, 63, 127]
theorem swashplateref01_boundP.tab11 : rtab .any (opsOf Try.f92 11) = swashplateref01_boundP.T11 := by kernel_rfl
theorem swashplateref01_boundP.bits11 : waitsOk swashplateref01_boundP.T11.2 swashplateref01_boundP.B11 = true := by kernel_rfl
def swashplateref01_boundP.T12 : Bool × List (List Nat × List Nat) := (true, [([], []), ([0], [0]), ([], []), ([], []), ([2, 3], [2, 3]), ([1, 4], [1, 4]), ([0, 1, 2, 3, 4, 5], []), ([6, 5, 4, 0, 1, 2, 3, 4, 5], [5, 6])])
def swashplateref01_boundP.B12 : List Nat := [0, 1, 0, 0, 12, 31, 63, 127]
theorem swashplateref01_boundP.tab12 : rtab .any (opsOf Try.f92 12) = swashplateref01_boundP.T12 := by kernel_rfl
theorem swashplateref01_boundP.bits12 : waitsOk swashplateref01_boundP.T12.2 swashplateref01_boundP.B12 = true := by kernel_rfl
set_option maxHeartbeats 8000000 in
set_option maxRecDepth 100000 in
theorem swashplateref01_boundP.calls (k : Nat) (A0_0 : Option Addr) (c0_0 : Nat) (l0_0 : List Int) (A0_1 : Option Addr) (c0_1 : Nat) (l0_1 : List Int) (A0_2 : Option Addr) (c0_2 : Nat) (l0_2 : List (List Int)) (a1_0 : Int) (a1_1 : Int) (a2_0 : Int) (a2_1 : Int) (r1 : Int) (r2 : Int) (w : World) (hr0_0 : Kd.C (Kd.int .i64) w A0_0 l0_0.length l0_0) (hc0_0 : l0_0.length ≤ c0_0) (hr0_1 : Kd.C (Kd.int .i64) w A0_1 l0_1.length l0_1) (hc0_1 : l0_1.length ≤ c0_1) (hr0_2 : Kd.C (Kd.slice 3 (Kd.int .i64)) w A0_2 l0_2.length l0_2) (hc0_2 : l0_2.length ≤ c0_2) (h : swashplateref01_boundP.f k l0_0 l0_1 l0_2 a1_0 a1_1 a2_0 a2_1 = some (r1, r2)) :
  Calls Try.prog 92 #[.agg #[.slice A0_0 l0_0.length c0_0, .slice A0_1 l0_1.length c0_1, .slice A0_2 l0_2.length c0_2], .agg #[.int .i64 a1_0, .int .i64 a1_1], .agg #[.int .i64 a2_0, .int .i64 a2_1]] w fun e w' => e = .returned (.agg #[.int .i64 r1, .int .i64 r2]) ∧ Below w.heap.size w w' := by
 have hu25 := Try.underlying25
 have hu27 := Try.underlying27
 have HR0_0 := Aside0.mk hr0_0
 have HC0_0 := Aside0.mk hc0_0
 clear hr0_0 hc0_0
 have HR0_1 := Aside0.mk hr0_1
 have HC0_1 := Aside0.mk hc0_1
 clear hr0_1 hc0_1
 have HR0_2 := Aside0.mk hr0_2
 have HC0_2 := Aside0.mk hc0_2
 clear hr0_2 hc0_2
 have HB := Aside0.mk (Below.refl w.heap.size w)
 have H : ((swashplateref01_corners.f k l0_0 a1_0 a1_1).bind fun t409 => ((swashplateref01_corners.f k l0_1 a2_0 a2_1).bind fun t412 => (if 0 < (t409.length : Int) then (if 0 < (t412.length : Int) then ((swashplateref01_Value.f l0_0 l0_1 l0_2 (rd t409 0) (rd t412 0)).bind fun bt417 => ((swashplateref01_floor.f bt417.1 bt417.2).bind fun t419 => ((swashplateref01_ceil.f bt417.1 bt417.2).bind fun t420 => (swashplateref01_boundP.l0 k t409 t412 0 l0_0 l0_1 l0_2 t419 t420)))) else (none)) else (none)))) = some (r1, r2) := h
 clear h
 replace H := Option.bind_eq_some_iff.mp H
 obtain ⟨t409, A40, H⟩ := H
 replace H : ((swashplateref01_corners.f k l0_1 a2_0 a2_1).bind fun t412 => (if 0 < (t409.length : Int) then (if 0 < (t412.length : Int) then ((swashplateref01_Value.f l0_0 l0_1 l0_2 (rd t409 0) (rd t412 0)).bind fun bt417 => ((swashplateref01_floor.f bt417.1 bt417.2).bind fun t419 => ((swashplateref01_ceil.f bt417.1 bt417.2).bind fun t420 => (swashplateref01_boundP.l0 k t409 t412 0 l0_0 l0_1 l0_2 t419 t420)))) else (none)) else (none))) = some (r1, r2) := H
 have A4 := Aside0.mk A40
 clear A40
 replace H := Option.bind_eq_some_iff.mp H
 obtain ⟨t412, A50, H⟩ := H
 replace H : (if 0 < (t409.length : Int) then (if 0 < (t412.length : Int) then ((swashplateref01_Value.f l0_0 l0_1 l0_2 (rd t409 0) (rd t412 0)).bind fun bt417 => ((swashplateref01_floor.f bt417.1 bt417.2).bind fun t419 => ((swashplateref01_ceil.f bt417.1 bt417.2).bind fun t420 => (swashplateref01_boundP.l0 k t409 t412 0 l0_0 l0_1 l0_2 t419 t420)))) else (none)) else (none)) = some (r1, r2) := H
 have A5 := Aside0.mk A50
 clear A50
 by_cases c6 : 0 < (t409.length : Int)
 ·
  rw [if_pos c6] at H
  have c6b0 : decide (0 < (t409.length : Int)) = true := decide_eq_true c6
  have c6b1 : decide (0 < t409.length) = true := decide_eq_true (by omega)
  clear c6
  by_cases c7 : 0 < (t412.length : Int)
  ·
   rw [if_pos c7] at H
   have c7b0 : decide (0 < (t412.length : Int)) = true := decide_eq_true c7
   have c7b1 : decide (0 < t412.length) = true := decide_eq_true (by omega)
   clear c7
   replace H := Option.bind_eq_some_iff.mp H
   obtain ⟨⟨t417, t418⟩, A80, H⟩ := H
   replace H : ((swashplateref01_floor.f t417 t418).bind fun t419 => ((swashplateref01_ceil.f t417 t418).bind fun t420 => (swashplateref01_boundP.l0 k t409 t412 0 l0_0 l0_1 l0_2 t419 t420))) = some (r1, r2) := H
   have A8 := Aside0.mk A80
   clear A80
   replace H := Option.bind_eq_some_iff.mp H
   obtain ⟨t419, A90, H⟩ := H
   replace H : ((swashplateref01_ceil.f t417 t418).bind fun t420 => (swashplateref01_boundP.l0 k t409 t412 0 l0_0 l0_1 l0_2 t419 t420)) = some (r1, r2) := H
   have A9 := Aside0.mk A90
   clear A90
   replace H := Option.bind_eq_some_iff.mp H
   obtain ⟨t420, A100, H⟩ := H
   replace H : (swashplateref01_boundP.l0 k t409 t412 0 l0_0 l0_1 l0_2 t419 t420) = some (r1, r2) := H
   have A10 := Aside0.mk A100
   clear A100
   have H' := Aside0.mk H
   clear H
   go_enter Try.func92, Try.ntmps92
   try go_wp2_with (first | ((with_reducible refine gate_dst (N := 3) rfl ?_); refine box_event ?hg (N := 3) ?hd (cs := #[.slice A0_0 l0_0.length c0_0, .slice A0_1 l0_1.length c0_1, .slice A0_2 l0_2.length c0_2]) (t := 25) ?hr ?_; (case hd => rfl); (case hg => rfl); (case hr => first | (go_simp; done) | (go_simp; rfl)); intro gb405 hg w11 hbox hb; have n0_ := Aside0.mk (below_step (bl_ HB.out) hb); have n1_ := Aside0.mk (hbox); have n2_ := Aside0.mk (szl_ hg HB.out); have n3_ := Aside0.mk (szl_ hg HB.out); clear HB; have HB := n0_; have BK405 := n1_; have GW405 := n2_; have GE405 := n3_; clear n0_ n1_ n2_ n3_ hb hbox hg) | ((with_reducible refine gate_dst (N := 4) rfl ?_); refine box_event ?hg (N := 4) ?hd (cs := #[.int .i64 a1_0, .int .i64 a1_1]) (t := 27) ?hr ?_; (case hd => rfl); (case hg => rfl); (case hr => first | (go_simp; done) | (go_simp; rfl)); intro gb406 hg w12 hbox hb; have n0_ := Aside0.mk (blk_below (bk_ BK405.out) hb); have n1_ := Aside0.mk (below_step (bl_ HB.out) hb); have n2_ := Aside0.mk (hbox); have n3_ := Aside0.mk (szl_ hg HB.out); have n4_ := Aside0.mk (szl_ hg HB.out); have n5_ := Aside0.mk (nel_ hg BK405.out); have n6_ := Aside0.mk (ner_ hg BK405.out); clear BK405 HB; have BK405 := n0_; have HB := n1_; have BK406 := n2_; have GW406 := n3_; have GE406 := n4_; have NB405_406 := n5_; have NB406_405 := n6_; clear n0_ n1_ n2_ n3_ n4_ n5_ n6_ hb hbox hg) | ((with_reducible refine gate_dst (N := 5) rfl ?_); refine box_event ?hg (N := 5) ?hd (cs := #[.int .i64 a2_0, .int .i64 a2_1]) (t := 27) ?hr ?_; (case hd => rfl); (case hg => rfl); (case hr => first | (go_simp; done) | (go_simp; rfl)); intro gb407 hg w13 hbox hb; have n0_ := Aside0.mk (blk_below (bk_ BK405.out) hb); have n1_ := Aside0.mk (blk_below (bk_ BK406.out) hb); have n2_ := Aside0.mk (below_step (bl_ HB.out) hb); have n3_ := Aside0.mk (hbox); have n4_ := Aside0.mk (szl_ hg HB.out); have n5_ := Aside0.mk (szl_ hg HB.out); have n6_ := Aside0.mk (nel_ hg BK405.out); have n7_ := Aside0.mk (ner_ hg BK405.out); have n8_ := Aside0.mk (nel_ hg BK406.out); have n9_ := Aside0.mk (ner_ hg BK406.out); clear BK405 BK406 HB; have BK405 := n0_; have BK406 := n1_; have HB := n2_; have BK407 := n3_; have GW407 := n4_; have GE407 := n5_; have NB405_407 := n6_; have NB407_405 := n7_; have NB406_407 := n8_; have NB407_406 := n9_; clear n0_ n1_ n2_ n3_ n4_ n5_ n6_ n7_ n8_ n9_ hb hbox hg) | ((with_reducible refine gate_dst (N := 6) rfl ?_); refine box_event ?hg (N := 6) ?hd (cs := #[.int .i64 0, .int .i64 0]) (t := 27) ?hr ?_; (case hd => rfl); (case hg => rfl); (case hr => first | (go_simp; done) | (go_simp; rfl)); intro gb408 hg w14 hbox hb; have n0_ := Aside0.mk (blk_below (bk_ BK405.out) hb); have n1_ := Aside0.mk (blk_below (bk_ BK406.out) hb); have n2_ := Aside0.mk (blk_below (bk_ BK407.out) hb); have n3_ := Aside0.mk (below_step (bl_ HB.out) hb); have n4_ := Aside0.mk (hbox); have n5_ := Aside0.mk (szl_ hg HB.out); have n6_ := Aside0.mk (szl_ hg HB.out); have n7_ := Aside0.mk (nel_ hg BK405.out); have n8_ := Aside0.mk (ner_ hg BK405.out); have n9_ := Aside0.mk (nel_ hg BK406.out); have n10_ := Aside0.mk (ner_ hg BK406.out); have n11_ := Aside0.mk (nel_ hg BK407.out); have n12_ := Aside0.mk (ner_ hg BK407.out); clear BK405 BK406 BK407 HB; have BK405 := n0_; have BK406 := n1_; have BK407 := n2_; have HB := n3_; have BK408 := n4_; have GW408 := n5_; have GE408 := n6_; have NB405_408 := n7_; have NB408_405 := n8_; have NB406_408 := n9_; have NB408_406 := n10_; have NB407_408 := n11_; have NB408_407 := n12_; clear n0_ n1_ n2_ n3_ n4_ n5_ n6_ n7_ n8_ n9_ n10_ n11_ n12_ hb hbox hg))
   have n0_ := Aside0.mk (blk_drew BK405.out)
   have n1_ := Aside0.mk (blk_drew BK406.out)
   have n2_ := Aside0.mk (blk_drew BK407.out)
   have n3_ := Aside0.mk (blk_drew BK408.out)
   have n4_ := Aside0.mk (below_drew1 HB.out)
   clear BK405 BK406 BK407 BK408 HB
   have BK405 := n0_
   have BK406 := n1_
   have BK407 := n2_
   have BK408 := n3_
   have HB := n4_
   clear n0_ n1_ n2_ n3_ n4_
   refine start_ (n := 10) (S := fun w' => w'.cell? ⟨gb405, 0, none⟩ = some (.slice A0_0 l0_0.length c0_0) ∧ w'.cell? ⟨gb405, 1, none⟩ = some (.slice A0_1 l0_1.length c0_1) ∧ w'.cell? ⟨gb405, 2, none⟩ = some (.slice A0_2 l0_2.length c0_2) ∧ w'.cell? ⟨gb406, 0, none⟩ = some (.int .i64 a1_0) ∧ w'.cell? ⟨gb406, 1, none⟩ = some (.int .i64 a1_1) ∧ w'.cell? ⟨gb407, 0, none⟩ = some (.int .i64 a2_0) ∧ w'.cell? ⟨gb407, 1, none⟩ = some (.int .i64 a2_1)) (ds := []) #[false, false, false, false, false, false, false, false, false, false] (by kernel_rfl) rfl rfl ⟨(blk_cell BK405.out 0).trans rfl, (blk_cell BK405.out 1).trans rfl, (blk_cell BK405.out 2).trans rfl, (blk_cell BK406.out 0).trans rfl, (blk_cell BK406.out 1).trans rfl, (blk_cell BK407.out 0).trans rfl, (blk_cell BK407.out 1).trans rfl⟩ (fun hHeld => ?_); refine with_tabW swashplateref01_boundP.tab1 swashplateref01_boundP.bits1 (fun HT_ HW_ => ?_)
   generalize w14.drew = w15 at BK405 BK406 BK407 BK408 HB hHeld ⊢
   refine pure_ (i := 0) (N := some 14) (v := ?_) (a' := ?_) #[true, false, false, false, false, false, false, false, false, false] rfl rfl (any_of HT_.out (by kernel_rfl)) (fun _ _ _ h => h) (Or.inl ⟨by rfl, ?_⟩) ?_ ?_
   rotate_left
   ·
    intro w'
    go_simp
    with_reducible rfl
   rotate_left
   ·
    simp only [Act.put, List.setIfInBounds_toArray, List.set_cons_zero, List.set_cons_succ, i64_w, i32_w]
    rfl
   refine pure_ (i := 4) (N := some 18) (v := ?_) (a' := ?_) #[true, false, false, false, true, false, false, false, false, false] rfl rfl (any_of HT_.out (by kernel_rfl)) (fun _ _ _ h => h) (Or.inl ⟨by rfl, ?_⟩) ?_ ?_
   rotate_left
   ·
    intro w'
    go_simp
    with_reducible rfl
   rotate_left
   ·
    simp only [Act.put, List.setIfInBounds_toArray, List.set_cons_zero, List.set_cons_succ, i64_w, i32_w]
    rfl
   refine take_ (i := 1) (N := some 15) (v := ?_) (a' := ?_) #[true, true, false, false, true, false, false, false, false, false] rfl rfl (take_ofW HT_.out HW_.out (by kernel_rfl)) (fun _ _ _ h => h) (Or.inl ⟨by rfl, ?_⟩) hHeld ?_ ?_
   rotate_left
   ·
    rintro w' ⟨s0, s1, s2, s3, s4, s5, s6⟩
    go_simp
    with_reducible rfl
   rotate_left
   ·
    simp only [Act.put, List.setIfInBounds_toArray, List.set_cons_zero, List.set_cons_succ, i64_w, i32_w]
    rfl
   refine take_ (i := 2) (N := some 16) (v := ?_) (a' := ?_) #[true, true, true, false, true, false, false, false, false, false] rfl rfl (take_ofW HT_.out HW_.out (by kernel_rfl)) (fun _ _ _ h => h) (Or.inl ⟨by rfl, ?_⟩) hHeld ?_ ?_
   rotate_left
   ·
    rintro w' ⟨s0, s1, s2, s3, s4, s5, s6⟩
    go_simp
    with_reducible rfl
   rotate_left
   ·
    simp only [Act.put, List.setIfInBounds_toArray, List.set_cons_zero, List.set_cons_succ, i64_w, i32_w]
    rfl
   refine take_ (i := 5) (N := some 19) (v := ?_) (a' := ?_) #[true, true, true, false, true, true, false, false, false, false] rfl rfl (take_ofW HT_.out HW_.out (by kernel_rfl)) (fun _ _ _ h => h) (Or.inl ⟨by rfl, ?_⟩) hHeld ?_ ?_
   rotate_left
   ·
    rintro w' ⟨s0, s1, s2, s3, s4, s5, s6⟩
    go_simp
    with_reducible rfl
   rotate_left
   ·
    simp only [Act.put, List.setIfInBounds_toArray, List.set_cons_zero, List.set_cons_succ, i64_w, i32_w]
    rfl
   refine take_ (i := 6) (N := some 20) (v := ?_) (a' := ?_) #[true, true, true, false, true, true, true, false, false, false] rfl rfl (take_ofW HT_.out HW_.out (by kernel_rfl)) (fun _ _ _ h => h) (Or.inl ⟨by rfl, ?_⟩) hHeld ?_ ?_
   rotate_left
   ·
    rintro w' ⟨s0, s1, s2, s3, s4, s5, s6⟩
    go_simp
    with_reducible rfl
   rotate_left
   ·
    simp only [Act.put, List.setIfInBounds_toArray, List.set_cons_zero, List.set_cons_succ, i64_w, i32_w]
    rfl
   refine one_ (i := 3) (N := some 17) #[true, true, true, true, true, true, true, false, false, false] rfl rfl (one_of HT_.out (by kernel_rfl)) (by decide) (fun K hK => ?_)
   refine goes_ Try.func101 (by kernel_rfl) rfl #[.slice A0_0 l0_0.length c0_0, .agg #[.int .i64 a1_0, .int .i64 a1_1]] (by rfl) rfl rfl (by (try simp only [List.map_toArray, List.map_cons, List.map_nil]); first | done | rfl | (simp only [List.length_drop, List.length_take]; rfl)) ?_
   with_reducible refine (swashplateref01_corners.calls k _ _ l0_0 a1_0 a1_1 t409 _ ?side1 ?side2 A4.out).mono ?_
   (case side1 => exact cr_ (Kd.C_below HR0_0.out HB.out))
   (case side2 => exact HC0_0.out)
   rintro e w16 ⟨v410, rfl, ho0, hb⟩
   refine ⟨_, rfl, ?_⟩
   have n0_ := Aside0.mk (Kd.R_lower ho0 (below_size (bl_ HB.out)))
   have n1_ := Aside0.mk (blk_below (bk_ BK405.out) hb)
   have n2_ := Aside0.mk (blk_below (bk_ BK406.out) hb)
   have n3_ := Aside0.mk (blk_below (bk_ BK407.out) hb)
   have n4_ := Aside0.mk (blk_below (bk_ BK408.out) hb)
   have n5_ := Aside0.mk (below_step (bl_ HB.out) hb)
   clear BK405 BK406 BK407 BK408 HB
   have HO411 := n0_
   have BK405 := n1_
   have BK406 := n2_
   have BK407 := n3_
   have BK408 := n4_
   have HB := n5_
   clear n0_ n1_ n2_ n3_ n4_ n5_
   (try clear hb)
   (try clear hb2)
   (try clear hk)
   (try clear hi)
   (try clear ho0)
   refine hK.out _ _ ⟨(blk_cell BK405.out 0).trans rfl, (blk_cell BK405.out 1).trans rfl, (blk_cell BK405.out 2).trans rfl, (blk_cell BK406.out 0).trans rfl, (blk_cell BK406.out 1).trans rfl, (blk_cell BK407.out 0).trans rfl, (blk_cell BK407.out 1).trans rfl⟩ (fun hHeld => ?_)
   clear hK K
   refine norm_ (a' := ?_) ?_ ?_
   rotate_left
   ·
    show Act.put _ (some 17) _ = _
    simp only [Act.put, List.setIfInBounds_toArray, List.set_cons_zero, List.set_cons_succ, i64_w, i32_w]
    rfl
   refine one_ (i := 7) (N := some 21) #[true, true, true, true, true, true, true, true, false, false] rfl rfl (one_of HT_.out (by kernel_rfl)) (by decide) (fun K hK => ?_)
   refine goes_ Try.func101 (by kernel_rfl) rfl #[.slice A0_1 l0_1.length c0_1, .agg #[.int .i64 a2_0, .int .i64 a2_1]] (by rfl) rfl rfl (by (try simp only [List.map_toArray, List.map_cons, List.map_nil]); first | done | rfl | (simp only [List.length_drop, List.length_take]; rfl)) ?_
   with_reducible refine (swashplateref01_corners.calls k _ _ l0_1 a2_0 a2_1 t412 _ ?side1 ?side2 A5.out).mono ?_
   (case side1 => exact cr_ (Kd.C_below HR0_1.out HB.out))
   (case side2 => exact HC0_1.out)
   rintro e w17 ⟨v413, rfl, ho0, hb⟩
   refine ⟨_, rfl, ?_⟩
   have n0_ := Aside0.mk (Kd.R_elder' (by (with_reducible repeat (first | apply Kd.R_alloc | apply Kd.R_drewN | apply Kd.R_drew)); exact HO411.out) (Kd.R_base ho0) hb)
   have n1_ := Aside0.mk (Kd.R_lower (Kd.R_new' ho0 (Kd.R_lt (by (with_reducible repeat (first | apply Kd.R_alloc | apply Kd.R_drewN | apply Kd.R_drew)); exact HO411.out))) (below_size (bl_ HB.out)))
   have n2_ := Aside0.mk (blk_below (bk_ BK405.out) hb)
   have n3_ := Aside0.mk (blk_below (bk_ BK406.out) hb)
   have n4_ := Aside0.mk (blk_below (bk_ BK407.out) hb)
   have n5_ := Aside0.mk (blk_below (bk_ BK408.out) hb)
   have n6_ := Aside0.mk (below_step (bl_ HB.out) hb)
   clear HO411 BK405 BK406 BK407 BK408 HB
   have HO411 := n0_
   have HO414 := n1_
   have BK405 := n2_
   have BK406 := n3_
   have BK407 := n4_
   have BK408 := n5_
   have HB := n6_
   clear n0_ n1_ n2_ n3_ n4_ n5_ n6_
   (try clear hb)
   (try clear hb2)
   (try clear hk)
   (try clear hi)
   (try clear ho0)
   refine hK.out _ _ ⟨(blk_cell BK405.out 0).trans rfl, (blk_cell BK405.out 1).trans rfl, (blk_cell BK405.out 2).trans rfl, (blk_cell BK406.out 0).trans rfl, (blk_cell BK406.out 1).trans rfl, (blk_cell BK407.out 0).trans rfl, (blk_cell BK407.out 1).trans rfl⟩ (fun hHeld => ?_)
   clear hK K
   refine norm_ (a' := ?_) ?_ ?_
   rotate_left
   ·
    show Act.put _ (some 21) _ = _
    simp only [Act.put, List.setIfInBounds_toArray, List.set_cons_zero, List.set_cons_succ, i64_w, i32_w]
    rfl
   refine pure_ (i := 8) (N := some 7) (v := ?_) (a' := ?_) #[true, true, true, true, true, true, true, true, true, false] rfl rfl (any_of HT_.out (by kernel_rfl)) (fun _ _ _ h => h) (Or.inl ⟨by rfl, ?_⟩) ?_ ?_
   rotate_left
   ·
    intro w'
    go_simp
    with_reducible rfl
   rotate_left
   ·
    simp only [Act.put, List.setIfInBounds_toArray, List.set_cons_zero, List.set_cons_succ, i64_w, i32_w]
    rfl
   refine pure_ (i := 9) (N := some 8) (v := ?_) (a' := ?_) #[true, true, true, true, true, true, true, true, true, true] rfl rfl (any_of HT_.out (by kernel_rfl)) (fun _ _ _ h => h) (Or.inl ⟨by rfl, ?_⟩) ?_ ?_
   rotate_left
   ·
    intro w'
    go_simp
    with_reducible rfl
   rotate_left
   ·
    simp only [Act.put, List.setIfInBounds_toArray, List.set_cons_zero, List.set_cons_succ, i64_w, i32_w]
    rfl
   refine done_ (done_of HT_.out (by kernel_rfl)) ?_
   try go_wp2
   have n0_ := Aside0.mk (Kd.R_drew HO411.out)
   have n1_ := Aside0.mk (Kd.R_drew HO414.out)
   have n2_ := Aside0.mk (blk_drew BK405.out)
   have n3_ := Aside0.mk (blk_drew BK406.out)
   have n4_ := Aside0.mk (blk_drew BK407.out)
   have n5_ := Aside0.mk (blk_drew BK408.out)
   have n6_ := Aside0.mk (below_drew1 HB.out)
   clear HO411 HO414 BK405 BK406 BK407 BK408 HB
   have HO411 := n0_
   have HO414 := n1_
   have BK405 := n2_
   have BK406 := n3_
   have BK407 := n4_
   have BK408 := n5_
   have HB := n6_
   clear n0_ n1_ n2_ n3_ n4_ n5_ n6_
   obtain ⟨Ao19, co19, eo19⟩ := Kd.R_slice HO411.out
   (first | subst eo19 | (injection eo19 with f1_ f2_ f3_; have f4_ := f1_.symm; have f5_ := f3_.symm; clear f1_ f2_ f3_; subst f4_; subst f5_))
   have p415 : 0 ≤ (0 : Int) := (by omega)
   have q415 : 0 < (t409.length : Int) := of_decide_eq_true (by first | (with_reducible assumption) | assumption)
   obtain ⟨ad415, e415, hx415_0⟩ := Kd.at_int (Kd.R_reads' HO411.out).2.2 0 p415 q415
   cases e415
   have qi415 : (0 < t409.length) = True := eq_true (by omega)
   (try rw [show ((0 : Int)).toNat = 0 from rfl] at hx415_0)
   (try rw [Addr.add_zero'] at hx415_0)
   replace p415 := eq_true p415
   replace q415 := eq_true q415
   obtain ⟨Ao20, co20, eo20⟩ := Kd.R_slice HO414.out
   (first | subst eo20 | (injection eo20 with f1_ f2_ f3_; have f4_ := f1_.symm; have f5_ := f3_.symm; clear f1_ f2_ f3_; subst f4_; subst f5_))
   have p416 : 0 ≤ (0 : Int) := (by omega)
   have q416 : 0 < (t412.length : Int) := of_decide_eq_true (by first | (with_reducible assumption) | assumption)
   obtain ⟨ad416, e416, hx416_0⟩ := Kd.at_int (Kd.R_reads' HO414.out).2.2 0 p416 q416
   cases e416
   have qi416 : (0 < t412.length) = True := eq_true (by omega)
   (try rw [show ((0 : Int)).toNat = 0 from rfl] at hx416_0)
   (try rw [Addr.add_zero'] at hx416_0)
   replace p416 := eq_true p416
   replace q416 := eq_true q416
   refine start_ (n := 13) (S := fun w' => w'.cell? ⟨gb405, 0, none⟩ = some (.slice A0_0 l0_0.length c0_0) ∧ w'.cell? ⟨gb405, 1, none⟩ = some (.slice A0_1 l0_1.length c0_1) ∧ w'.cell? ⟨gb405, 2, none⟩ = some (.slice A0_2 l0_2.length c0_2) ∧ w'.cell? ad415 = some (.int .i64 (rd t409 0)) ∧ w'.cell? ad416 = some (.int .i64 (rd t412 0))) (ds := []) #[false, false, false, false, false, false, false, false, false, false, false, false, false] (by kernel_rfl) rfl rfl ⟨(blk_cell BK405.out 0).trans rfl, (blk_cell BK405.out 1).trans rfl, (blk_cell BK405.out 2).trans rfl, hx415_0, hx416_0⟩ (fun hHeld => ?_); refine with_tabW swashplateref01_boundP.tab2 swashplateref01_boundP.bits2 (fun HT_ HW_ => ?_)
   generalize w17.drew = w18 at HO411 HO414 BK405 BK406 BK407 BK408 HB hx415_0 hx416_0 hHeld ⊢
   refine pure_ (i := 1) (N := some 24) (v := ?_) (a' := ?_) #[false, true, false, false, false, false, false, false, false, false, false, false, false] rfl rfl (any_of HT_.out (by kernel_rfl)) (fun _ _ _ h => h) (Or.inl ⟨by rfl, ?_⟩) ?_ ?_
   rotate_left
   ·
    intro w'
    go_simp
    with_reducible rfl
   rotate_left
   ·
    simp only [Act.put, List.setIfInBounds_toArray, List.set_cons_zero, List.set_cons_succ, i64_w, i32_w]
    rfl
   refine pure_ (i := 2) (N := some 25) (v := ?_) (a' := ?_) #[false, true, true, false, false, false, false, false, false, false, false, false, false] rfl rfl (any_of HT_.out (by kernel_rfl)) (fun _ _ _ h => h) (Or.inl ⟨by rfl, ?_⟩) ?_ ?_
   rotate_left
   ·
    intro w'
    go_simp
    with_reducible rfl
   rotate_left
   ·
    simp only [Act.put, List.setIfInBounds_toArray, List.set_cons_zero, List.set_cons_succ, i64_w, i32_w]
    rfl
   refine pure_ (i := 4) (N := some 27) (v := ?_) (a' := ?_) #[false, true, true, false, true, false, false, false, false, false, false, false, false] rfl rfl (any_of HT_.out (by kernel_rfl)) (fun _ _ _ h => h) (Or.inl ⟨by rfl, ?_⟩) ?_ ?_
   rotate_left
   ·
    intro w'
    go_simp
    with_reducible rfl
   rotate_left
   ·
    simp only [Act.put, List.setIfInBounds_toArray, List.set_cons_zero, List.set_cons_succ, i64_w, i32_w]
    rfl
   refine pure_ (i := 5) (N := some 28) (v := ?_) (a' := ?_) #[false, true, true, false, true, true, false, false, false, false, false, false, false] rfl rfl (any_of HT_.out (by kernel_rfl)) (fun _ _ _ h => h) (Or.inl ⟨by rfl, ?_⟩) ?_ ?_
   rotate_left
   ·
    intro w'
    go_simp
    with_reducible rfl
   rotate_left
   ·
    simp only [Act.put, List.setIfInBounds_toArray, List.set_cons_zero, List.set_cons_succ, i64_w, i32_w]
    rfl
   refine take_ (i := 0) (N := some 23) (v := ?_) (a' := ?_) #[true, true, true, false, true, true, false, false, false, false, false, false, false] rfl rfl (take_ofW HT_.out HW_.out (by kernel_rfl)) (fun _ _ _ h => h) (Or.inl ⟨by rfl, ?_⟩) hHeld ?_ ?_
   rotate_left
   ·
    rintro w' ⟨s0, s1, s2, s3, s4⟩
    go_simp
    with_reducible rfl
   rotate_left
   ·
    simp only [Act.put, List.setIfInBounds_toArray, List.set_cons_zero, List.set_cons_succ, i64_w, i32_w]
    rfl
   refine take_ (i := 3) (N := some 26) (v := ?_) (a' := ?_) #[true, true, true, true, true, true, false, false, false, false, false, false, false] rfl rfl (take_ofW HT_.out HW_.out (by kernel_rfl)) (fun _ _ _ h => h) (Or.inl ⟨by rfl, ?_⟩) hHeld ?_ ?_
   rotate_left
   ·
    rintro w' ⟨s0, s1, s2, s3, s4⟩
    go_simp
    with_reducible rfl
   rotate_left
   ·
    simp only [Act.put, List.setIfInBounds_toArray, List.set_cons_zero, List.set_cons_succ, i64_w, i32_w]
    rfl
   refine take_ (i := 6) (N := some 29) (v := ?_) (a' := ?_) #[true, true, true, true, true, true, true, false, false, false, false, false, false] rfl rfl (take_ofW HT_.out HW_.out (by kernel_rfl)) (fun _ _ _ h => h) (Or.inl ⟨by rfl, ?_⟩) hHeld ?_ ?_
   rotate_left
   ·
    rintro w' ⟨s0, s1, s2, s3, s4⟩
    go_simp
    with_reducible rfl
   rotate_left
   ·
    simp only [Act.put, List.setIfInBounds_toArray, List.set_cons_zero, List.set_cons_succ, i64_w, i32_w]
    rfl
   refine one_ (i := 7) (N := some 30) #[true, true, true, true, true, true, true, true, false, false, false, false, false] rfl rfl (one_of HT_.out (by kernel_rfl)) (by decide) (fun K hK => ?_)
   refine goes_ Try.func102 (by kernel_rfl) rfl #[.agg #[.slice A0_0 l0_0.length c0_0, .slice A0_1 l0_1.length c0_1, .slice A0_2 l0_2.length c0_2], .int .i64 (rd t409 0), .int .i64 (rd t412 0)] (by rfl) rfl rfl (by (try simp only [List.map_toArray, List.map_cons, List.map_nil]); first | done | rfl | (simp only [List.length_drop, List.length_take]; rfl)) ?_
   with_reducible refine (swashplateref01_Value.calls _ _ l0_0 _ _ l0_1 _ _ l0_2 (rd t409 0) (rd t412 0) t417 t418 _ ?side1 ?side2 ?side3 ?side4 ?side5 ?side6 A8.out).mono ?_
   (case side1 => exact cr_ (Kd.C_below HR0_0.out HB.out))
   (case side2 => exact HC0_0.out)
   (case side3 => exact cr_ (Kd.C_below HR0_1.out HB.out))
   (case side4 => exact HC0_1.out)
   (case side5 => exact cr_ (Kd.C_below HR0_2.out HB.out))
   (case side6 => exact HC0_2.out)
   rintro e w21 ⟨rfl, hb⟩
   have HS3_ := (hb.cell (World.block_lt_of_cell? _ _ (hHeld.2.2.2.1))).trans (hHeld.2.2.2.1)
   have HS4_ := (hb.cell (World.block_lt_of_cell? _ _ (hHeld.2.2.2.2))).trans (hHeld.2.2.2.2)
   refine ⟨_, rfl, ?_⟩
   have n0_ := Aside0.mk (Kd.R_below (by (with_reducible repeat (first | apply Kd.R_alloc | apply Kd.R_drewN | apply Kd.R_drew)); exact HO411.out) hb)
   have n1_ := Aside0.mk (Kd.R_below (by (with_reducible repeat (first | apply Kd.R_alloc | apply Kd.R_drewN | apply Kd.R_drew)); exact HO414.out) hb)
   have n2_ := Aside0.mk (blk_below (bk_ BK405.out) hb)
   have n3_ := Aside0.mk (blk_below (bk_ BK406.out) hb)
   have n4_ := Aside0.mk (blk_below (bk_ BK407.out) hb)
   have n5_ := Aside0.mk (blk_below (bk_ BK408.out) hb)
   have n6_ := Aside0.mk (below_step (bl_ HB.out) hb)
   clear HO411 HO414 BK405 BK406 BK407 BK408 HB
   have HO411 := n0_
   have HO414 := n1_
   have BK405 := n2_
   have BK406 := n3_
   have BK407 := n4_
   have BK408 := n5_
   have HB := n6_
   clear n0_ n1_ n2_ n3_ n4_ n5_ n6_
   (try clear hb)
   (try clear hb2)
   (try clear hk)
   (try clear hi)
   refine hK.out _ _ ⟨(blk_cell BK405.out 0).trans rfl, (blk_cell BK405.out 1).trans rfl, (blk_cell BK405.out 2).trans rfl, HS3_, HS4_⟩ (fun hHeld => ?_)
   clear hK K
   refine norm_ (a' := ?_) ?_ ?_
   rotate_left
   ·
    show Act.put _ (some 30) _ = _
    simp only [Act.put, List.setIfInBounds_toArray, List.set_cons_zero, List.set_cons_succ, i64_w, i32_w]
    rfl
   refine pure_ (i := 8) (N := some 22) (v := ?_) (a' := ?_) #[true, true, true, true, true, true, true, true, true, false, false, false, false] rfl rfl (any_of HT_.out (by kernel_rfl)) (fun _ _ _ h => h) (Or.inl ⟨by rfl, ?_⟩) ?_ ?_
   rotate_left
   ·
    intro w'
    go_simp
    with_reducible rfl
   rotate_left
   ·
    simp only [Act.put, List.setIfInBounds_toArray, List.set_cons_zero, List.set_cons_succ, i64_w, i32_w]
    rfl
   refine pure_ (i := 9) (N := some 31) (v := ?_) (a' := ?_) #[true, true, true, true, true, true, true, true, true, true, false, false, false] rfl rfl (any_of HT_.out (by kernel_rfl)) (fun _ _ _ h => h) (Or.inl ⟨by rfl, ?_⟩) ?_ ?_
   rotate_left
   ·
    intro w'
    go_simp
    with_reducible rfl
   rotate_left
   ·
    simp only [Act.put, List.setIfInBounds_toArray, List.set_cons_zero, List.set_cons_succ, i64_w, i32_w]
    rfl
   refine pure_ (i := 10) (N := some 32) (v := ?_) (a' := ?_) #[true, true, true, true, true, true, true, true, true, true, true, false, false] rfl rfl (any_of HT_.out (by kernel_rfl)) (fun _ _ _ h => h) (Or.inl ⟨by rfl, ?_⟩) ?_ ?_
   rotate_left
   ·
    intro w'
    go_simp
    with_reducible rfl
   rotate_left
   ·
    simp only [Act.put, List.setIfInBounds_toArray, List.set_cons_zero, List.set_cons_succ, i64_w, i32_w]
    rfl
   refine pure_ (i := 11) (N := some 9) (v := ?_) (a' := ?_) #[true, true, true, true, true, true, true, true, true, true, true, true, false] rfl rfl (any_of HT_.out (by kernel_rfl)) (fun _ _ _ h => h) (Or.inl ⟨by rfl, ?_⟩) ?_ ?_
   rotate_left
   ·
    intro w'
    go_simp
    with_reducible rfl
   rotate_left
   ·
    simp only [Act.put, List.setIfInBounds_toArray, List.set_cons_zero, List.set_cons_succ, i64_w, i32_w]
    rfl
   refine pure_ (i := 12) (N := some 10) (v := ?_) (a' := ?_) #[true, true, true, true, true, true, true, true, true, true, true, true, true] rfl rfl (any_of HT_.out (by kernel_rfl)) (fun _ _ _ h => h) (Or.inl ⟨by rfl, ?_⟩) ?_ ?_
   rotate_left
   ·
    intro w'
    go_simp
    with_reducible rfl
   rotate_left
   ·
    simp only [Act.put, List.setIfInBounds_toArray, List.set_cons_zero, List.set_cons_succ, i64_w, i32_w]
    rfl
   refine done_ (done_of HT_.out (by kernel_rfl)) ?_
   try go_wp2_with (first | ((with_reducible refine gate_callee (f := 107) rfl ?_); refine goesL_ (some 35) rfl rfl Try.func107 (by kernel_rfl) rfl #[.int .i64 t417, .int .i64 t418] rfl (by (try simp only [List.map_toArray, List.map_cons, List.map_nil]); first | done | rfl | (simp only [List.length_drop, List.length_take]; rfl)) ?_; (with_reducible refine (swashplateref01_floor.calls t417 t418 t419 _ A9.out).mono ?_); rintro e w' ⟨rfl, ⟨nd, rfl⟩⟩; refine ⟨_, rfl, ?_⟩; (try (rw [drewN_self w21]; generalize hq_ : World.drewN w21 _ = w21; have n0_ : Aside0 (Kd.R (Kd.int .i64) 3 w21 w.heap.size (fun k_ => some k_ ≠ (.slice (some ad416) t412.length co20 : Value).ownBlock) (.slice (some ad415) t409.length co19) t409) := ⟨by rw [← hq_]; exact (by (with_reducible repeat (first | apply Kd.R_alloc | apply Kd.R_drewN | apply Kd.R_drew)); exact Kd.R_mono HO411.out (fun _ hk => hk.2))⟩; have n1_ : Aside0 (Kd.R (Kd.int .i64) 3 w21 w.heap.size (fun k_ => some k_ ≠ (.slice (some ad415) t409.length co19 : Value).ownBlock) (.slice (some ad416) t412.length co20) t412) := ⟨by rw [← hq_]; exact (by (with_reducible repeat (first | apply Kd.R_alloc | apply Kd.R_drewN | apply Kd.R_drew)); exact Kd.R_mono HO414.out (fun _ hk => hk.2))⟩; have n2_ : Aside0 (w21.heap[gb405]? = some (.cells #[.slice A0_0 l0_0.length c0_0, .slice A0_1 l0_1.length c0_1, .slice A0_2 l0_2.length c0_2] 25 (0, 0))) := ⟨by rw [← hq_]; exact (bk_ BK405.out)⟩; have n3_ : Aside0 (w21.heap[gb406]? = some (.cells #[.int .i64 a1_0, .int .i64 a1_1] 27 (0, 0))) := ⟨by rw [← hq_]; exact (bk_ BK406.out)⟩; have n4_ : Aside0 (w21.heap[gb407]? = some (.cells #[.int .i64 a2_0, .int .i64 a2_1] 27 (0, 0))) := ⟨by rw [← hq_]; exact (bk_ BK407.out)⟩; have n5_ : Aside0 (w21.heap[gb408]? = some (.cells #[.int .i64 0, .int .i64 0] 27 (0, 0))) := ⟨by rw [← hq_]; exact (bk_ BK408.out)⟩; have n6_ : Aside0 (Below w.heap.size w w21) := ⟨by rw [← hq_]; exact (bl_ HB.out)⟩; clear HO411 HO414 BK405 BK406 BK407 BK408 HB hq_; have HO411 := n0_; have HO414 := n1_; have BK405 := n2_; have BK406 := n3_; have BK407 := n4_; have BK408 := n5_; have HB := n6_; clear n0_ n1_ n2_ n3_ n4_ n5_ n6_))) | ((with_reducible refine gate_callee (f := 108) rfl ?_); refine goesL_ (some 38) rfl rfl Try.func108 (by kernel_rfl) rfl #[.int .i64 t417, .int .i64 t418] rfl (by (try simp only [List.map_toArray, List.map_cons, List.map_nil]); first | done | rfl | (simp only [List.length_drop, List.length_take]; rfl)) ?_; (with_reducible refine (swashplateref01_ceil.calls t417 t418 t420 _ A10.out).mono ?_); rintro e w' ⟨rfl, ⟨nd, rfl⟩⟩; refine ⟨_, rfl, ?_⟩; (try (rw [drewN_self w21]; generalize hq_ : World.drewN w21 _ = w21; have n0_ : Aside0 (Kd.R (Kd.int .i64) 3 w21 w.heap.size (fun k_ => some k_ ≠ (.slice (some ad416) t412.length co20 : Value).ownBlock) (.slice (some ad415) t409.length co19) t409) := ⟨by rw [← hq_]; exact (by (with_reducible repeat (first | apply Kd.R_alloc | apply Kd.R_drewN | apply Kd.R_drew)); exact Kd.R_mono HO411.out (fun _ hk => hk.2))⟩; have n1_ : Aside0 (Kd.R (Kd.int .i64) 3 w21 w.heap.size (fun k_ => some k_ ≠ (.slice (some ad415) t409.length co19 : Value).ownBlock) (.slice (some ad416) t412.length co20) t412) := ⟨by rw [← hq_]; exact (by (with_reducible repeat (first | apply Kd.R_alloc | apply Kd.R_drewN | apply Kd.R_drew)); exact Kd.R_mono HO414.out (fun _ hk => hk.2))⟩; have n2_ : Aside0 (w21.heap[gb405]? = some (.cells #[.slice A0_0 l0_0.length c0_0, .slice A0_1 l0_1.length c0_1, .slice A0_2 l0_2.length c0_2] 25 (0, 0))) := ⟨by rw [← hq_]; exact (bk_ BK405.out)⟩; have n3_ : Aside0 (w21.heap[gb406]? = some (.cells #[.int .i64 a1_0, .int .i64 a1_1] 27 (0, 0))) := ⟨by rw [← hq_]; exact (bk_ BK406.out)⟩; have n4_ : Aside0 (w21.heap[gb407]? = some (.cells #[.int .i64 a2_0, .int .i64 a2_1] 27 (0, 0))) := ⟨by rw [← hq_]; exact (bk_ BK407.out)⟩; have n5_ : Aside0 (w21.heap[gb408]? = some (.cells #[.int .i64 0, .int .i64 0] 27 (0, 0))) := ⟨by rw [← hq_]; exact (bk_ BK408.out)⟩; have n6_ : Aside0 (Below w.heap.size w w21) := ⟨by rw [← hq_]; exact (bl_ HB.out)⟩; clear HO411 HO414 BK405 BK406 BK407 BK408 HB hq_; have HO411 := n0_; have HO414 := n1_; have BK405 := n2_; have BK406 := n3_; have BK407 := n4_; have BK408 := n5_; have HB := n6_; clear n0_ n1_ n2_ n3_ n4_ n5_ n6_))) | ((with_reducible refine gate_dst (N := 11) rfl ?_); refine box_event ?hg (N := 11) ?hd (cs := #[.int .i64 0, .int .i64 0]) (t := 27) ?hr ?_; (case hd => rfl); (case hg => rfl); (case hr => first | (go_simp; done) | (go_simp; rfl)); intro gb421 hg w22 hbox hb; have n0_ := Aside0.mk (Kd.R_below (by (with_reducible repeat (first | apply Kd.R_alloc | apply Kd.R_drewN | apply Kd.R_drew)); exact HO411.out) hb); have n1_ := Aside0.mk (Kd.R_below (by (with_reducible repeat (first | apply Kd.R_alloc | apply Kd.R_drewN | apply Kd.R_drew)); exact HO414.out) hb); have n2_ := Aside0.mk (blk_below (bk_ BK405.out) hb); have n3_ := Aside0.mk (blk_below (bk_ BK406.out) hb); have n4_ := Aside0.mk (blk_below (bk_ BK407.out) hb); have n5_ := Aside0.mk (blk_below (bk_ BK408.out) hb); have n6_ := Aside0.mk (below_step (bl_ HB.out) hb); have n7_ := Aside0.mk (hbox); have n8_ := Aside0.mk (szl_ hg HB.out); have n9_ := Aside0.mk (szl_ hg HB.out); have n10_ := Aside0.mk (nel_ hg BK405.out); have n11_ := Aside0.mk (ner_ hg BK405.out); have n12_ := Aside0.mk (nel_ hg BK406.out); have n13_ := Aside0.mk (ner_ hg BK406.out); have n14_ := Aside0.mk (nel_ hg BK407.out); have n15_ := Aside0.mk (ner_ hg BK407.out); have n16_ := Aside0.mk (nel_ hg BK408.out); have n17_ := Aside0.mk (ner_ hg BK408.out); clear HO411 HO414 BK405 BK406 BK407 BK408 HB; have HO411 := n0_; have HO414 := n1_; have BK405 := n2_; have BK406 := n3_; have BK407 := n4_; have BK408 := n5_; have HB := n6_; have BK421 := n7_; have GW421 := n8_; have GE421 := n9_; have NB405_421 := n10_; have NB421_405 := n11_; have NB406_421 := n12_; have NB421_406 := n13_; have NB407_421 := n14_; have NB421_407 := n15_; have NB408_421 := n16_; have NB421_408 := n17_; clear n0_ n1_ n2_ n3_ n4_ n5_ n6_ n7_ n8_ n9_ n10_ n11_ n12_ n13_ n14_ n15_ n16_ n17_ hb hbox hg; have hnb23 := NB421_405.out; have hnc23 := NB405_421.out; have hnb24 := NB421_406.out; have hnc24 := NB406_421.out; have hnb25 := NB421_407.out; have hnc25 := NB407_421.out; have hnb26 := NB421_408.out; have hnc26 := NB408_421.out; have hcz27_0 : w22.cell? ⟨gb421, 0, none⟩ = some (.int .i64 0) := (blk_cell BK421.out 0).trans rfl; have hcz27_1 : w22.cell? ⟨gb421, 1, none⟩ = some (.int .i64 0) := (blk_cell BK421.out 1).trans rfl; have hfz27_0 := blk_frozen BK421.out 0; have hfz27_1 := blk_frozen BK421.out 1))
   go_loopg [12] k (fun kq v12 w' => ∃ (x12_1 : Int) (x422000_1 : Int) (x422001_1 : Int), v12 = .int .i64 x12_1 ∧ Aside0 (swashplateref01_boundP.l0 kq t409 t412 x12_1 l0_0 l0_1 l0_2 x422000_1 x422001_1 = some (r1, r2)) ∧ Aside0 (kq ≤ k) ∧ Aside0 (Kd.R (Kd.int .i64) 3 w' w.heap.size (fun k_ => some k_ ≠ ((.slice (some ad416) t412.length co20) : Value).ownBlock) (.slice (some ad415) t409.length co19) t409) ∧ Aside0 (Kd.R (Kd.int .i64) 3 w' w.heap.size (fun k_ => some k_ ≠ ((.slice (some ad415) t409.length co19) : Value).ownBlock) (.slice (some ad416) t412.length co20) t412) ∧ Aside0 (w'.heap[gb405]? = some (.cells #[(.slice A0_0 l0_0.length c0_0), (.slice A0_1 l0_1.length c0_1), (.slice A0_2 l0_2.length c0_2)] 25 (0, 0))) ∧ Aside0 (w'.heap[gb406]? = some (.cells #[.int .i64 a1_0, .int .i64 a1_1] 27 (0, 0))) ∧ Aside0 (w'.heap[gb407]? = some (.cells #[.int .i64 a2_0, .int .i64 a2_1] 27 (0, 0))) ∧ Aside0 (w'.heap[gb408]? = some (.cells #[.int .i64 0, .int .i64 0] 27 (0, 0))) ∧ Aside0 (w'.heap[gb421]? = some (.cells #[.int .i64 x422000_1, .int .i64 x422001_1] 27 (0, 0))) ∧ Aside0 (Below w.heap.size w w'))
   case atStart => exact ⟨(0), (t419), (t420), (by first | rfl | (simp; done) | (simp [*]; done)), H', ⟨Nat.le_refl _⟩, ⟨by (with_reducible repeat (first | apply Kd.R_alloc | apply Kd.R_drewN | apply Kd.R_drew)); exact Kd.R_mono (Kd.R_far (p := ⟨gb421, 1, none⟩) (Kd.R_far (p := ⟨gb421, 0, none⟩) (Kd.R_types HO411.out BK421.out (by decide)) (fun _ hk => hk.2) (.int .i64 t419)) (fun _ hk => hk.2) (.int .i64 t420)) (fun _ hk => by first | exact hk.1.2 | exact hk.1)⟩, ⟨by (with_reducible repeat (first | apply Kd.R_alloc | apply Kd.R_drewN | apply Kd.R_drew)); exact Kd.R_mono (Kd.R_far (p := ⟨gb421, 1, none⟩) (Kd.R_far (p := ⟨gb421, 0, none⟩) (Kd.R_types HO414.out BK421.out (by decide)) (fun _ hk => hk.2) (.int .i64 t419)) (fun _ hk => hk.2) (.int .i64 t420)) (fun _ hk => by first | exact hk.1.2 | exact hk.1)⟩, ⟨by (with_reducible repeat (first | refine blk_drewN ?_ _ | refine blk_drew ?_ | refine blk_alloc ?_ _)); refine blk_far ?_ NB405_421.out _; (with_reducible repeat (first | refine blk_drewN ?_ _ | refine blk_drew ?_ | refine blk_alloc ?_ _)); refine blk_far ?_ NB405_421.out _; (with_reducible repeat (first | refine blk_drewN ?_ _ | refine blk_drew ?_ | refine blk_alloc ?_ _)); exact BK405.out⟩, ⟨by (with_reducible repeat (first | refine blk_drewN ?_ _ | refine blk_drew ?_ | refine blk_alloc ?_ _)); refine blk_far ?_ NB406_421.out _; (with_reducible repeat (first | refine blk_drewN ?_ _ | refine blk_drew ?_ | refine blk_alloc ?_ _)); refine blk_far ?_ NB406_421.out _; (with_reducible repeat (first | refine blk_drewN ?_ _ | refine blk_drew ?_ | refine blk_alloc ?_ _)); exact BK406.out⟩, ⟨by (with_reducible repeat (first | refine blk_drewN ?_ _ | refine blk_drew ?_ | refine blk_alloc ?_ _)); refine blk_far ?_ NB407_421.out _; (with_reducible repeat (first | refine blk_drewN ?_ _ | refine blk_drew ?_ | refine blk_alloc ?_ _)); refine blk_far ?_ NB407_421.out _; (with_reducible repeat (first | refine blk_drewN ?_ _ | refine blk_drew ?_ | refine blk_alloc ?_ _)); exact BK407.out⟩, ⟨by (with_reducible repeat (first | refine blk_drewN ?_ _ | refine blk_drew ?_ | refine blk_alloc ?_ _)); refine blk_far ?_ NB408_421.out _; (with_reducible repeat (first | refine blk_drewN ?_ _ | refine blk_drew ?_ | refine blk_alloc ?_ _)); refine blk_far ?_ NB408_421.out _; (with_reducible repeat (first | refine blk_drewN ?_ _ | refine blk_drew ?_ | refine blk_alloc ?_ _)); exact BK408.out⟩, ⟨by (with_reducible repeat (first | refine blk_drewN ?_ _ | refine blk_drew ?_ | refine blk_alloc ?_ _)); refine blk_put (cs := #[.int .i64 t419, .int .i64 0]) ?_ 1 _ rfl; (with_reducible repeat (first | refine blk_drewN ?_ _ | refine blk_drew ?_ | refine blk_alloc ?_ _)); refine blk_put (cs := #[.int .i64 0, .int .i64 0]) ?_ 0 _ rfl; (with_reducible repeat (first | refine blk_drewN ?_ _ | refine blk_drew ?_ | refine blk_alloc ?_ _)); exact BK421.out⟩, ⟨bl_ HB.out⟩⟩
   case round =>
    clear H'
    try clear c1
    try clear c2
    try clear p2
    try clear p4
    try clear q4
    try clear hx4
    try clear qi4
    try clear c6
    try clear c6b0
    try clear c6b1
    try clear c7
    try clear c7b0
    try clear c7b1
    try clear c9
    try clear c10
    try clear c23
    try clear c24
    try clear c25
    try clear c26
    try clear hcz27_0
    try clear hcz27_1
    try clear hfz27_0
    try clear hfz27_1
    try clear hx415_0
    try clear hx416_0
    try clear p415
    try clear p416
    try clear q415
    try clear q416
    obtain ⟨x12_1, x422000_1, x422001_1, rfl, HA, HK1, HO_7, HO_8, BK405, BK406, BK407, BK408, BK421, HB⟩ := hrel
    cases gk with
    | zero => exact absurd HA.out (by simp [swashplateref01_boundP.l0])
    | succ k1 =>
     have H := HA.out
     clear HA
     simp only [swashplateref01_boundP.l0] at H
     by_cases c28 : x12_1 < (t409.length : Int)
     ·
      rw [if_pos c28] at H
      have c28b0 : decide (x12_1 < (t409.length : Int)) = true := decide_eq_true c28
      clear c28
      have H' := Aside0.mk H
      clear H
      go_wp2
      go_loopg [13] k1 (fun kq v13 w' => ∃ (x13_2 : Int) (x422000_2 : Int) (x422001_2 : Int), v13 = .int .i64 x13_2 ∧ Aside0 (swashplateref01_boundP.l1 kq t409 t412 x12_1 x13_2 l0_0 l0_1 l0_2 x422000_2 x422001_2 = some (r1, r2)) ∧ Aside0 (kq ≤ k1) ∧ Aside0 (Kd.R (Kd.int .i64) 3 w' w.heap.size (fun k_ => some k_ ≠ ((.slice (some ad416) t412.length co20) : Value).ownBlock) (.slice (some ad415) t409.length co19) t409) ∧ Aside0 (Kd.R (Kd.int .i64) 3 w' w.heap.size (fun k_ => some k_ ≠ ((.slice (some ad415) t409.length co19) : Value).ownBlock) (.slice (some ad416) t412.length co20) t412) ∧ Aside0 (w'.heap[gb405]? = some (.cells #[(.slice A0_0 l0_0.length c0_0), (.slice A0_1 l0_1.length c0_1), (.slice A0_2 l0_2.length c0_2)] 25 (0, 0))) ∧ Aside0 (w'.heap[gb406]? = some (.cells #[.int .i64 a1_0, .int .i64 a1_1] 27 (0, 0))) ∧ Aside0 (w'.heap[gb407]? = some (.cells #[.int .i64 a2_0, .int .i64 a2_1] 27 (0, 0))) ∧ Aside0 (w'.heap[gb408]? = some (.cells #[.int .i64 0, .int .i64 0] 27 (0, 0))) ∧ Aside0 (w'.heap[gb421]? = some (.cells #[.int .i64 x422000_2, .int .i64 x422001_2] 27 (0, 0))) ∧ Aside0 (Below w.heap.size w w'))
      case atStart => exact ⟨(0), (x422000_1), (x422001_1), (by first | rfl | (simp; done) | (simp [*]; done)), H', ⟨Nat.le_refl _⟩, ⟨by (with_reducible repeat (first | apply Kd.R_alloc | apply Kd.R_drewN | apply Kd.R_drew)); exact HO_7.out⟩, ⟨by (with_reducible repeat (first | apply Kd.R_alloc | apply Kd.R_drewN | apply Kd.R_drew)); exact HO_8.out⟩, ⟨bk_ BK405.out⟩, ⟨bk_ BK406.out⟩, ⟨bk_ BK407.out⟩, ⟨bk_ BK408.out⟩, ⟨bk_ BK421.out⟩, ⟨bl_ HB.out⟩⟩
      case round =>
       clear H'
       try clear c1
       try clear c2
       try clear p2
       try clear p4
       try clear q4
       try clear hx4
       try clear qi4
       try clear c6
       try clear c6b0
       try clear c6b1
       try clear c7
       try clear c7b0
       try clear c7b1
       try clear c9
       try clear c10
       try clear c23
       try clear c24
       try clear c25
       try clear c26
       try clear c28
       try clear c28b0
       try clear hcz27_0
       try clear hcz27_1
       try clear hfz27_0
       try clear hfz27_1
       try clear hx415_0
       try clear hx416_0
       try clear p2
       try clear p4
       try clear p415
       try clear p416
       try clear q4
       try clear q415
       try clear q416
       obtain ⟨x13_2, x422000_2, x422001_2, rfl, HA, HK2, HO_7, HO_8, BK405, BK406, BK407, BK408, BK421, HB⟩ := hrel
       cases gk with
       | zero => exact absurd HA.out (by simp [swashplateref01_boundP.l1])
       | succ k2 =>
        have H := HA.out
        clear HA
        simp only [swashplateref01_boundP.l1] at H
        by_cases c29 : x13_2 < (t412.length : Int)
        ·
         rw [if_pos c29] at H
         have c29b0 : decide (x13_2 < (t412.length : Int)) = true := decide_eq_true c29
         clear c29
         by_cases c30 : 0 ≤ x12_1
         ·
          rw [if_pos c30] at H
          have c30b0 : decide (0 ≤ x12_1) = true := decide_eq_true c30
          clear c30
          by_cases c31 : x12_1 < (t409.length : Int)
          ·
           rw [if_pos c31] at H
           have c31b0 : decide (x12_1 < (t409.length : Int)) = true := decide_eq_true c31
           clear c31
           by_cases c32 : 0 ≤ x13_2
           ·
            rw [if_pos c32] at H
            have c32b0 : decide (0 ≤ x13_2) = true := decide_eq_true c32
            clear c32
            replace H := Option.bind_eq_some_iff.mp H
            obtain ⟨⟨t424, t425⟩, A330, H⟩ := H
            replace H : ((swashplateref01_floor.f t424 t425).bind fun t426 => ((swashplateref01_ceil.f t424 t425).bind fun t427 => (swashplateref01_boundP.l1 k2 t409 t412 x12_1 (wrap64 (x13_2 + 1)) l0_0 l0_1 l0_2 (mn x422000_2 t426) (mx x422001_2 t427)))) = some (r1, r2) := H
            have A33 := Aside0.mk A330
            clear A330
            replace H := Option.bind_eq_some_iff.mp H
            obtain ⟨t426, A340, H⟩ := H
            replace H : ((swashplateref01_ceil.f t424 t425).bind fun t427 => (swashplateref01_boundP.l1 k2 t409 t412 x12_1 (wrap64 (x13_2 + 1)) l0_0 l0_1 l0_2 (mn x422000_2 t426) (mx x422001_2 t427))) = some (r1, r2) := H
            have A34 := Aside0.mk A340
            clear A340
            obtain ⟨ji35, hji35⟩ : ∃ j_ : Int, (mn x422000_2 t426) = j_ := ⟨_, rfl⟩
            replace H : ((swashplateref01_ceil.f t424 t425).bind fun t427 => (swashplateref01_boundP.l1 k2 t409 t412 x12_1 (wrap64 (x13_2 + 1)) l0_0 l0_1 l0_2 ji35 (mx x422001_2 t427))) = some (r1, r2) := by first | (rw [hji35] at H; exact H) | (simp only [hji35] at H ⊢; exact H)
            (try rw [hji35] at A33)
            (try rw [hji35] at A34)
            have hji35_ : (if t426 < x422000_2 then t426 else x422000_2) = ji35 := hji35
            replace H := Option.bind_eq_some_iff.mp H
            obtain ⟨t427, A360, H⟩ := H
            replace H : (swashplateref01_boundP.l1 k2 t409 t412 x12_1 (wrap64 (x13_2 + 1)) l0_0 l0_1 l0_2 ji35 (mx x422001_2 t427)) = some (r1, r2) := H
            have A36 := Aside0.mk A360
            clear A360
            obtain ⟨ji37, hji37⟩ : ∃ j_ : Int, (mx x422001_2 t427) = j_ := ⟨_, rfl⟩
            replace H : (swashplateref01_boundP.l1 k2 t409 t412 x12_1 (wrap64 (x13_2 + 1)) l0_0 l0_1 l0_2 ji35 ji37) = some (r1, r2) := by first | (rw [hji37] at H; exact H) | (simp only [hji37] at H ⊢; exact H)
            (try rw [hji37] at A33)
            (try rw [hji37] at A34)
            (try rw [hji37] at A36)
            have hji37_ : (if x422001_2 < t427 then t427 else x422001_2) = ji37 := hji37
            have H' := Aside0.mk H
            clear H
            try go_wp2
            have n0_ := Aside0.mk (Kd.R_drew HO_7.out)
            have n1_ := Aside0.mk (Kd.R_drew HO_8.out)
            have n2_ := Aside0.mk (blk_drew BK405.out)
            have n3_ := Aside0.mk (blk_drew BK406.out)
            have n4_ := Aside0.mk (blk_drew BK407.out)
            have n5_ := Aside0.mk (blk_drew BK408.out)
            have n6_ := Aside0.mk (blk_drew BK421.out)
            have n7_ := Aside0.mk (below_drew1 HB.out)
            clear HO_7 HO_8 BK405 BK406 BK407 BK408 BK421 HB
            have HO_7 := n0_
            have HO_8 := n1_
            have BK405 := n2_
            have BK406 := n3_
            have BK407 := n4_
            have BK408 := n5_
            have BK421 := n6_
            have HB := n7_
            clear n0_ n1_ n2_ n3_ n4_ n5_ n6_ n7_
            have p422 : 0 ≤ (x12_1 : Int) := of_decide_eq_true (by first | (with_reducible assumption) | assumption)
            have q422 : x12_1 < (t409.length : Int) := of_decide_eq_true (by first | (with_reducible assumption) | assumption)
            obtain ⟨ad422, e422, hx422_0⟩ := Kd.at_int (Kd.R_reads' HO_7.out).2.2 x12_1 p422 q422
            obtain rfl : ad415 = ad422 := (by injection e422)
            replace p422 := eq_true p422
            replace q422 := eq_true q422
            have p423 : 0 ≤ (x13_2 : Int) := of_decide_eq_true (by first | (with_reducible assumption) | assumption)
            have q423 : x13_2 < (t412.length : Int) := of_decide_eq_true (by first | (with_reducible assumption) | assumption)
            obtain ⟨ad423, e423, hx423_0⟩ := Kd.at_int (Kd.R_reads' HO_8.out).2.2 x13_2 p423 q423
            obtain rfl : ad416 = ad423 := (by injection e423)
            replace p423 := eq_true p423
            replace q423 := eq_true q423
            refine start_ (n := 15) (S := fun w' => w'.cell? ⟨gb405, 0, none⟩ = some (.slice A0_0 l0_0.length c0_0) ∧ w'.cell? ⟨gb405, 1, none⟩ = some (.slice A0_1 l0_1.length c0_1) ∧ w'.cell? ⟨gb405, 2, none⟩ = some (.slice A0_2 l0_2.length c0_2) ∧ w'.cell? (ad415.add (x12_1).toNat) = some (.int .i64 (rd t409 x12_1)) ∧ w'.cell? (ad416.add (x13_2).toNat) = some (.int .i64 (rd t412 x13_2))) (ds := []) #[false, false, false, false, false, false, false, false, false, false, false, false, false, false, false] (by kernel_rfl) rfl rfl ⟨(blk_cell BK405.out 0).trans rfl, (blk_cell BK405.out 1).trans rfl, (blk_cell BK405.out 2).trans rfl, hx422_0, hx423_0⟩ (fun hHeld => ?_); refine with_tabW swashplateref01_boundP.tab10 swashplateref01_boundP.bits10 (fun HT_ HW_ => ?_)
            generalize wr.drew = w38 at HO_7 HO_8 BK405 BK406 BK407 BK408 BK421 HB hx422_0 hx423_0 hHeld ⊢
            refine pure_ (i := 1) (N := some 54) (v := ?_) (a' := ?_) #[false, true, false, false, false, false, false, false, false, false, false, false, false, false, false] rfl rfl (any_of HT_.out (by kernel_rfl)) (fun _ _ _ h => h) (Or.inl ⟨by rfl, ?_⟩) ?_ ?_
            rotate_left
            ·
             intro w'
             go_simp
             with_reducible rfl
            rotate_left
            ·
             simp only [Act.put, List.setIfInBounds_toArray, List.set_cons_zero, List.set_cons_succ, i64_w, i32_w]
             rfl
            refine pure_ (i := 2) (N := some 55) (v := ?_) (a' := ?_) #[false, true, true, false, false, false, false, false, false, false, false, false, false, false, false] rfl rfl (any_of HT_.out (by kernel_rfl)) (fun _ _ _ h => h) (Or.inl ⟨by rfl, ?_⟩) ?_ ?_
            rotate_left
            ·
             intro w'
             go_simp
             with_reducible rfl
            rotate_left
            ·
             simp only [Act.put, List.setIfInBounds_toArray, List.set_cons_zero, List.set_cons_succ, i64_w, i32_w]
             rfl
            refine pure_ (i := 3) (N := some 56) (v := ?_) (a' := ?_) #[false, true, true, true, false, false, false, false, false, false, false, false, false, false, false] rfl rfl (any_of HT_.out (by kernel_rfl)) (fun _ _ _ h => h) (Or.inl ⟨by rfl, ?_⟩) ?_ ?_
            rotate_left
            ·
             intro w'
             go_simp
             with_reducible rfl
            rotate_left
            ·
             simp only [Act.put, List.setIfInBounds_toArray, List.set_cons_zero, List.set_cons_succ, i64_w, i32_w]
             rfl
            refine pure_ (i := 5) (N := some 58) (v := ?_) (a' := ?_) #[false, true, true, true, false, true, false, false, false, false, false, false, false, false, false] rfl rfl (any_of HT_.out (by kernel_rfl)) (fun _ _ _ h => h) (Or.inl ⟨by rfl, ?_⟩) ?_ ?_
            rotate_left
            ·
             intro w'
             go_simp
             with_reducible rfl
            rotate_left
            ·
             simp only [Act.put, List.setIfInBounds_toArray, List.set_cons_zero, List.set_cons_succ, i64_w, i32_w]
             rfl
            refine pure_ (i := 6) (N := some 59) (v := ?_) (a' := ?_) #[false, true, true, true, false, true, true, false, false, false, false, false, false, false, false] rfl rfl (any_of HT_.out (by kernel_rfl)) (fun _ _ _ h => h) (Or.inl ⟨by rfl, ?_⟩) ?_ ?_
            rotate_left
            ·
             intro w'
             go_simp
             with_reducible rfl
            rotate_left
            ·
             simp only [Act.put, List.setIfInBounds_toArray, List.set_cons_zero, List.set_cons_succ, i64_w, i32_w]
             rfl
            refine pure_ (i := 7) (N := some 60) (v := ?_) (a' := ?_) #[false, true, true, true, false, true, true, true, false, false, false, false, false, false, false] rfl rfl (any_of HT_.out (by kernel_rfl)) (fun _ _ _ h => h) (Or.inl ⟨by rfl, ?_⟩) ?_ ?_
            rotate_left
            ·
             intro w'
             go_simp
             with_reducible rfl
            rotate_left
            ·
             simp only [Act.put, List.setIfInBounds_toArray, List.set_cons_zero, List.set_cons_succ, i64_w, i32_w]
             rfl
            refine take_ (i := 0) (N := some 53) (v := ?_) (a' := ?_) #[true, true, true, true, false, true, true, true, false, false, false, false, false, false, false] rfl rfl (take_ofW HT_.out HW_.out (by kernel_rfl)) (fun _ _ _ h => h) (Or.inl ⟨by rfl, ?_⟩) hHeld ?_ ?_
            rotate_left
            ·
             rintro w' ⟨s0, s1, s2, s3, s4⟩
             go_simp
             with_reducible rfl
            rotate_left
            ·
             simp only [Act.put, List.setIfInBounds_toArray, List.set_cons_zero, List.set_cons_succ, i64_w, i32_w]
             rfl
            refine take_ (i := 4) (N := some 57) (v := ?_) (a' := ?_) #[true, true, true, true, true, true, true, true, false, false, false, false, false, false, false] rfl rfl (take_ofW HT_.out HW_.out (by kernel_rfl)) (fun _ _ _ h => h) (Or.inl ⟨by rfl, ?_⟩) hHeld ?_ ?_
            rotate_left
            ·
             rintro w' ⟨s0, s1, s2, s3, s4⟩
             go_simp
             with_reducible rfl
            rotate_left
            ·
             simp only [Act.put, List.setIfInBounds_toArray, List.set_cons_zero, List.set_cons_succ, i64_w, i32_w]
             rfl
            refine take_ (i := 8) (N := some 61) (v := ?_) (a' := ?_) #[true, true, true, true, true, true, true, true, true, false, false, false, false, false, false] rfl rfl (take_ofW HT_.out HW_.out (by kernel_rfl)) (fun _ _ _ h => h) (Or.inl ⟨by rfl, ?_⟩) hHeld ?_ ?_
            rotate_left
            ·
             rintro w' ⟨s0, s1, s2, s3, s4⟩
             go_simp
             with_reducible rfl
            rotate_left
            ·
             simp only [Act.put, List.setIfInBounds_toArray, List.set_cons_zero, List.set_cons_succ, i64_w, i32_w]
             rfl
            refine one_ (i := 9) (N := some 62) #[true, true, true, true, true, true, true, true, true, true, false, false, false, false, false] rfl rfl (one_of HT_.out (by kernel_rfl)) (by decide) (fun K hK => ?_)
            refine goes_ Try.func102 (by kernel_rfl) rfl #[.agg #[.slice A0_0 l0_0.length c0_0, .slice A0_1 l0_1.length c0_1, .slice A0_2 l0_2.length c0_2], .int .i64 (rd t409 x12_1), .int .i64 (rd t412 x13_2)] (by rfl) rfl rfl (by (try simp only [List.map_toArray, List.map_cons, List.map_nil]); first | done | rfl | (simp only [List.length_drop, List.length_take]; rfl)) ?_
            with_reducible refine (swashplateref01_Value.calls _ _ l0_0 _ _ l0_1 _ _ l0_2 (rd t409 x12_1) (rd t412 x13_2) t424 t425 _ ?side1 ?side2 ?side3 ?side4 ?side5 ?side6 A33.out).mono ?_
            (case side1 => exact cr_ (Kd.C_below HR0_0.out HB.out))
            (case side2 => exact HC0_0.out)
            (case side3 => exact cr_ (Kd.C_below HR0_1.out HB.out))
            (case side4 => exact HC0_1.out)
            (case side5 => exact cr_ (Kd.C_below HR0_2.out HB.out))
            (case side6 => exact HC0_2.out)
            rintro e w39 ⟨rfl, hb⟩
            have HS3_ := (hb.cell (World.block_lt_of_cell? _ _ (hHeld.2.2.2.1))).trans (hHeld.2.2.2.1)
            have HS4_ := (hb.cell (World.block_lt_of_cell? _ _ (hHeld.2.2.2.2))).trans (hHeld.2.2.2.2)
            refine ⟨_, rfl, ?_⟩
            have n0_ := Aside0.mk (Kd.R_below (by (with_reducible repeat (first | apply Kd.R_alloc | apply Kd.R_drewN | apply Kd.R_drew)); exact HO_7.out) hb)
            have n1_ := Aside0.mk (Kd.R_below (by (with_reducible repeat (first | apply Kd.R_alloc | apply Kd.R_drewN | apply Kd.R_drew)); exact HO_8.out) hb)
            have n2_ := Aside0.mk (blk_below (bk_ BK405.out) hb)
            have n3_ := Aside0.mk (blk_below (bk_ BK406.out) hb)
            have n4_ := Aside0.mk (blk_below (bk_ BK407.out) hb)
            have n5_ := Aside0.mk (blk_below (bk_ BK408.out) hb)
            have n6_ := Aside0.mk (blk_below (bk_ BK421.out) hb)
            have n7_ := Aside0.mk (below_step (bl_ HB.out) hb)
            clear HO_7 HO_8 BK405 BK406 BK407 BK408 BK421 HB
            have HO_7 := n0_
            have HO_8 := n1_
            have BK405 := n2_
            have BK406 := n3_
            have BK407 := n4_
            have BK408 := n5_
            have BK421 := n6_
            have HB := n7_
            clear n0_ n1_ n2_ n3_ n4_ n5_ n6_ n7_
            (try clear hb)
            (try clear hb2)
            (try clear hk)
            (try clear hi)
            refine hK.out _ _ ⟨(blk_cell BK405.out 0).trans rfl, (blk_cell BK405.out 1).trans rfl, (blk_cell BK405.out 2).trans rfl, HS3_, HS4_⟩ (fun hHeld => ?_)
            clear hK K
            refine norm_ (a' := ?_) ?_ ?_
            rotate_left
            ·
             show Act.put _ (some 62) _ = _
             simp only [Act.put, List.setIfInBounds_toArray, List.set_cons_zero, List.set_cons_succ, i64_w, i32_w]
             rfl
            refine pure_ (i := 10) (N := some 52) (v := ?_) (a' := ?_) #[true, true, true, true, true, true, true, true, true, true, true, false, false, false, false] rfl rfl (any_of HT_.out (by kernel_rfl)) (fun _ _ _ h => h) (Or.inl ⟨by rfl, ?_⟩) ?_ ?_
            rotate_left
            ·
             intro w'
             go_simp
             with_reducible rfl
            rotate_left
            ·
             simp only [Act.put, List.setIfInBounds_toArray, List.set_cons_zero, List.set_cons_succ, i64_w, i32_w]
             rfl
            refine pure_ (i := 11) (N := some 63) (v := ?_) (a' := ?_) #[true, true, true, true, true, true, true, true, true, true, true, true, false, false, false] rfl rfl (any_of HT_.out (by kernel_rfl)) (fun _ _ _ h => h) (Or.inl ⟨by rfl, ?_⟩) ?_ ?_
            rotate_left
            ·
             intro w'
             go_simp
             with_reducible rfl
            rotate_left
            ·
             simp only [Act.put, List.setIfInBounds_toArray, List.set_cons_zero, List.set_cons_succ, i64_w, i32_w]
             rfl
            refine pure_ (i := 12) (N := some 64) (v := ?_) (a' := ?_) #[true, true, true, true, true, true, true, true, true, true, true, true, true, false, false] rfl rfl (any_of HT_.out (by kernel_rfl)) (fun _ _ _ h => h) (Or.inl ⟨by rfl, ?_⟩) ?_ ?_
            rotate_left
            ·
             intro w'
             go_simp
             with_reducible rfl
            rotate_left
            ·
             simp only [Act.put, List.setIfInBounds_toArray, List.set_cons_zero, List.set_cons_succ, i64_w, i32_w]
             rfl
            refine pure_ (i := 13) (N := some 9) (v := ?_) (a' := ?_) #[true, true, true, true, true, true, true, true, true, true, true, true, true, true, false] rfl rfl (any_of HT_.out (by kernel_rfl)) (fun _ _ _ h => h) (Or.inl ⟨by rfl, ?_⟩) ?_ ?_
            rotate_left
            ·
             intro w'
             go_simp
             with_reducible rfl
            rotate_left
            ·
             simp only [Act.put, List.setIfInBounds_toArray, List.set_cons_zero, List.set_cons_succ, i64_w, i32_w]
             rfl
            refine pure_ (i := 14) (N := some 10) (v := ?_) (a' := ?_) #[true, true, true, true, true, true, true, true, true, true, true, true, true, true, true] rfl rfl (any_of HT_.out (by kernel_rfl)) (fun _ _ _ h => h) (Or.inl ⟨by rfl, ?_⟩) ?_ ?_
            rotate_left
            ·
             intro w'
             go_simp
             with_reducible rfl
            rotate_left
            ·
             simp only [Act.put, List.setIfInBounds_toArray, List.set_cons_zero, List.set_cons_succ, i64_w, i32_w]
             rfl
            refine done_ (done_of HT_.out (by kernel_rfl)) ?_
            try go_wp2
            have n0_ := Aside0.mk (Kd.R_drew HO_7.out)
            have n1_ := Aside0.mk (Kd.R_drew HO_8.out)
            have n2_ := Aside0.mk (blk_drew BK405.out)
            have n3_ := Aside0.mk (blk_drew BK406.out)
            have n4_ := Aside0.mk (blk_drew BK407.out)
            have n5_ := Aside0.mk (blk_drew BK408.out)
            have n6_ := Aside0.mk (blk_drew BK421.out)
            have n7_ := Aside0.mk (below_drew1 HB.out)
            clear HO_7 HO_8 BK405 BK406 BK407 BK408 BK421 HB
            have HO_7 := n0_
            have HO_8 := n1_
            have BK405 := n2_
            have BK406 := n3_
            have BK407 := n4_
            have BK408 := n5_
            have BK421 := n6_
            have HB := n7_
            clear n0_ n1_ n2_ n3_ n4_ n5_ n6_ n7_
            refine start_ (n := 8) (S := fun w' => w'.cell? ⟨gb421, 0, none⟩ = some (.int .i64 x422000_2) ∧ w'.cell? ⟨gb421, 1, none⟩ = some (.int .i64 x422001_2)) (ds := [7]) #[false, false, false, false, false, false, false, false] (by kernel_rfl) rfl rfl ⟨(blk_cell BK421.out 0).trans rfl, (blk_cell BK421.out 1).trans rfl⟩ (fun hHeld => ?_); refine with_tabW swashplateref01_boundP.tab11 swashplateref01_boundP.bits11 (fun HT_ HW_ => ?_)
            generalize w39.drew = w40 at HO_7 HO_8 BK405 BK406 BK407 BK408 BK421 HB hHeld ⊢
            refine pure_ (i := 0) (N := some 65) (v := ?_) (a' := ?_) #[true, false, false, false, false, false, false, false] rfl rfl (any_of HT_.out (by kernel_rfl)) (fun _ _ _ h => h) (Or.inl ⟨by rfl, ?_⟩) ?_ ?_
            rotate_left
            ·
             intro w'
             go_simp
             with_reducible rfl
            rotate_left
            ·
             simp only [Act.put, List.setIfInBounds_toArray, List.set_cons_zero, List.set_cons_succ, i64_w, i32_w]
             rfl
            refine pure_ (i := 2) (N := some 67) (v := ?_) (a' := ?_) #[true, false, true, false, false, false, false, false] rfl rfl (any_of HT_.out (by kernel_rfl)) (fun _ _ _ h => h) (Or.inl ⟨by rfl, ?_⟩) ?_ ?_
            rotate_left
            ·
             intro w'
             go_simp
             with_reducible rfl
            rotate_left
            ·
             simp only [Act.put, List.setIfInBounds_toArray, List.set_cons_zero, List.set_cons_succ, i64_w, i32_w]
             rfl
            refine pure_ (i := 3) (N := some 68) (v := ?_) (a' := ?_) #[true, false, true, true, false, false, false, false] rfl rfl (any_of HT_.out (by kernel_rfl)) (fun _ _ _ h => h) (Or.inl ⟨by rfl, ?_⟩) ?_ ?_
            rotate_left
            ·
             intro w'
             go_simp
             with_reducible rfl
            rotate_left
            ·
             simp only [Act.put, List.setIfInBounds_toArray, List.set_cons_zero, List.set_cons_succ, i64_w, i32_w]
             rfl
            refine take_ (i := 1) (N := some 66) (v := ?_) (a' := ?_) #[true, true, true, true, false, false, false, false] rfl rfl (take_ofW HT_.out HW_.out (by kernel_rfl)) (fun _ _ _ h => h) (Or.inl ⟨by rfl, ?_⟩) hHeld ?_ ?_
            rotate_left
            ·
             rintro w' ⟨s0, s1⟩
             go_simp
             with_reducible rfl
            rotate_left
            ·
             simp only [Act.put, List.setIfInBounds_toArray, List.set_cons_zero, List.set_cons_succ, i64_w, i32_w]
             rfl
            refine one_ (i := 4) (N := some 69) #[true, true, true, true, true, false, false, false] rfl rfl (one_of HT_.out (by kernel_rfl)) (by decide) (fun K hK => ?_)
            refine goes_ Try.func107 (by kernel_rfl) rfl #[.int .i64 t424, .int .i64 t425] (by rfl) rfl rfl (by (try simp only [List.map_toArray, List.map_cons, List.map_nil]); first | done | rfl | (simp only [List.length_drop, List.length_take]; rfl)) ?_
            with_reducible refine (swashplateref01_floor.calls t424 t425 t426 _ A34.out).mono ?_
            rintro e w' ⟨rfl, ⟨nd, rfl⟩⟩
            refine ⟨_, rfl, ?_⟩
            refine hK.out _ _ ⟨(blk_cell BK421.out 0).trans rfl, (blk_cell BK421.out 1).trans rfl⟩ (fun hHeld => ?_)
            clear hK K
            refine norm_ (a' := ?_) ?_ ?_
            rotate_left
            ·
             show Act.put _ (some 69) _ = _
             simp only [Act.put, List.setIfInBounds_toArray, List.set_cons_zero, List.set_cons_succ, i64_w, i32_w]
             rfl
            refine pure_ (i := 5) (N := some 70) (v := ?_) (a' := ?_) #[true, true, true, true, true, true, false, false] rfl rfl (any_of HT_.out (by kernel_rfl)) (fun _ _ _ h => h) (Or.inl ⟨by rfl, ?_⟩) ?_ ?_
            rotate_left
            ·
             intro w'
             go_simp
             with_reducible rfl
            rotate_left
            ·
             simp only [Act.put, List.setIfInBounds_toArray, List.set_cons_zero, List.set_cons_succ, i64_w, i32_w]
             rfl
            refine pure_ (i := 6) (N := some 71) (v := ?_) (a' := ?_) #[true, true, true, true, true, true, true, false] rfl rfl (any_of HT_.out (by kernel_rfl)) (fun _ _ _ h => h) (Or.inl ⟨by rfl, ?_⟩) ?_ ?_
            rotate_left
            ·
             intro w'
             go_simp
             with_reducible rfl
            rotate_left
            ·
             simp only [Act.put, List.setIfInBounds_toArray, List.set_cons_zero, List.set_cons_succ, i64_w, i32_w]
             rfl
            refine last_ (i := 7) (N := none) #[true, true, true, true, true, true, true, true] rfl rfl (one_of HT_.out (by kernel_rfl)) (by decide) (fun K hK => ?_)
            have hs41 : w40.cell? ⟨gb421, 0, none⟩ = some (.int .i64 x422000_2) := (blk_cell BK421.out 0).trans rfl
            have hfs41 := blk_frozen BK421.out 0
            have hns41_0 := NB405_421.out
            have hns41_1 := NB406_421.out
            have hns41_2 := NB407_421.out
            have hns41_3 := NB408_421.out
            have hms41_0 := NB421_405.out
            have hms41_1 := NB421_406.out
            have hms41_2 := NB421_407.out
            have hms41_3 := NB421_408.out
            refine skip_ (w1 := ?_) (by rfl) rfl ?_ ?_
            rotate_left
            ·
             go_simp
             rfl
            refine hK.out _ _ ?_
            clear hK K
            refine done_ (done_of HT_.out (by kernel_rfl)) ?_
            try go_wp2
            have n0_ : Aside0 (Kd.R (Kd.int .i64) 3 ((w40.drewN nd).setCell ⟨gb421, 0, none⟩ (.int .i64 ji35)) w.heap.size (fun k_ => some k_ ≠ (.slice (some ad416) t412.length co20 : Value).ownBlock) (.slice (some ad415) t409.length co19) t409) := ⟨by (with_reducible repeat (first | apply Kd.R_alloc | apply Kd.R_drewN | apply Kd.R_drew)); exact Kd.R_mono (Kd.R_far (p := ⟨gb421, 0, none⟩) (Kd.R_types HO_7.out BK421.out (by decide)) (fun _ hk => hk.2) (.int .i64 ji35)) (fun _ hk => hk.1)⟩
            have n1_ : Aside0 (Kd.R (Kd.int .i64) 3 ((w40.drewN nd).setCell ⟨gb421, 0, none⟩ (.int .i64 ji35)) w.heap.size (fun k_ => some k_ ≠ (.slice (some ad415) t409.length co19 : Value).ownBlock) (.slice (some ad416) t412.length co20) t412) := ⟨by (with_reducible repeat (first | apply Kd.R_alloc | apply Kd.R_drewN | apply Kd.R_drew)); exact Kd.R_mono (Kd.R_far (p := ⟨gb421, 0, none⟩) (Kd.R_types HO_8.out BK421.out (by decide)) (fun _ hk => hk.2) (.int .i64 ji35)) (fun _ hk => hk.1)⟩
            have n2_ : Aside0 (((w40.drewN nd).setCell ⟨gb421, 0, none⟩ (.int .i64 ji35)).heap[gb405]? = some (.cells #[.slice A0_0 l0_0.length c0_0, .slice A0_1 l0_1.length c0_1, .slice A0_2 l0_2.length c0_2] 25 (0, 0))) := ⟨by (with_reducible repeat (first | refine blk_drewN ?_ _ | refine blk_drew ?_ | refine blk_alloc ?_ _)); refine blk_far ?_ NB405_421.out _; (with_reducible repeat (first | refine blk_drewN ?_ _ | refine blk_drew ?_ | refine blk_alloc ?_ _)); exact BK405.out⟩
            have n3_ : Aside0 (((w40.drewN nd).setCell ⟨gb421, 0, none⟩ (.int .i64 ji35)).heap[gb406]? = some (.cells #[.int .i64 a1_0, .int .i64 a1_1] 27 (0, 0))) := ⟨by (with_reducible repeat (first | refine blk_drewN ?_ _ | refine blk_drew ?_ | refine blk_alloc ?_ _)); refine blk_far ?_ NB406_421.out _; (with_reducible repeat (first | refine blk_drewN ?_ _ | refine blk_drew ?_ | refine blk_alloc ?_ _)); exact BK406.out⟩
            have n4_ : Aside0 (((w40.drewN nd).setCell ⟨gb421, 0, none⟩ (.int .i64 ji35)).heap[gb407]? = some (.cells #[.int .i64 a2_0, .int .i64 a2_1] 27 (0, 0))) := ⟨by (with_reducible repeat (first | refine blk_drewN ?_ _ | refine blk_drew ?_ | refine blk_alloc ?_ _)); refine blk_far ?_ NB407_421.out _; (with_reducible repeat (first | refine blk_drewN ?_ _ | refine blk_drew ?_ | refine blk_alloc ?_ _)); exact BK407.out⟩
            have n5_ : Aside0 (((w40.drewN nd).setCell ⟨gb421, 0, none⟩ (.int .i64 ji35)).heap[gb408]? = some (.cells #[.int .i64 0, .int .i64 0] 27 (0, 0))) := ⟨by (with_reducible repeat (first | refine blk_drewN ?_ _ | refine blk_drew ?_ | refine blk_alloc ?_ _)); refine blk_far ?_ NB408_421.out _; (with_reducible repeat (first | refine blk_drewN ?_ _ | refine blk_drew ?_ | refine blk_alloc ?_ _)); exact BK408.out⟩
            have n6_ : Aside0 (((w40.drewN nd).setCell ⟨gb421, 0, none⟩ (.int .i64 ji35)).heap[gb421]? = some (.cells #[.int .i64 ji35, .int .i64 x422001_2] 27 (0, 0))) := ⟨by (with_reducible repeat (first | refine blk_drewN ?_ _ | refine blk_drew ?_ | refine blk_alloc ?_ _)); refine blk_put (cs := #[.int .i64 x422000_2, .int .i64 x422001_2]) ?_ 0 _ rfl; (with_reducible repeat (first | refine blk_drewN ?_ _ | refine blk_drew ?_ | refine blk_alloc ?_ _)); exact BK421.out⟩
            have n7_ : Aside0 (Below w.heap.size w ((w40.drewN nd).setCell ⟨gb421, 0, none⟩ (.int .i64 ji35))) := ⟨bl_ HB.out⟩
            (try clear HO_7)
            (try clear HO_8)
            (try clear BK405)
            (try clear BK406)
            (try clear BK407)
            (try clear BK408)
            (try clear BK421)
            (try clear HB)
            generalize ((w40.drewN nd).setCell ⟨gb421, 0, none⟩ (.int .i64 ji35)) = w42 at n0_ n1_ n2_ n3_ n4_ n5_ n6_ n7_ ⊢
            have HO_7 := n0_
            have HO_8 := n1_
            have BK405 := n2_
            have BK406 := n3_
            have BK407 := n4_
            have BK408 := n5_
            have BK421 := n6_
            have HB := n7_
            clear n0_ n1_ n2_ n3_ n4_ n5_ n6_ n7_
            (try (rw [drewN_self w42]; generalize hq_ : World.drewN w42 _ = w42; have n0_ : Aside0 (Kd.R (Kd.int .i64) 3 w42 w.heap.size (fun k_ => some k_ ≠ (.slice (some ad416) t412.length co20 : Value).ownBlock) (.slice (some ad415) t409.length co19) t409) := ⟨by rw [← hq_]; exact (by (with_reducible repeat (first | apply Kd.R_alloc | apply Kd.R_drewN | apply Kd.R_drew)); exact HO_7.out)⟩; have n1_ : Aside0 (Kd.R (Kd.int .i64) 3 w42 w.heap.size (fun k_ => some k_ ≠ (.slice (some ad415) t409.length co19 : Value).ownBlock) (.slice (some ad416) t412.length co20) t412) := ⟨by rw [← hq_]; exact (by (with_reducible repeat (first | apply Kd.R_alloc | apply Kd.R_drewN | apply Kd.R_drew)); exact HO_8.out)⟩; have n2_ : Aside0 (w42.heap[gb405]? = some (.cells #[.slice A0_0 l0_0.length c0_0, .slice A0_1 l0_1.length c0_1, .slice A0_2 l0_2.length c0_2] 25 (0, 0))) := ⟨by rw [← hq_]; exact (bk_ BK405.out)⟩; have n3_ : Aside0 (w42.heap[gb406]? = some (.cells #[.int .i64 a1_0, .int .i64 a1_1] 27 (0, 0))) := ⟨by rw [← hq_]; exact (bk_ BK406.out)⟩; have n4_ : Aside0 (w42.heap[gb407]? = some (.cells #[.int .i64 a2_0, .int .i64 a2_1] 27 (0, 0))) := ⟨by rw [← hq_]; exact (bk_ BK407.out)⟩; have n5_ : Aside0 (w42.heap[gb408]? = some (.cells #[.int .i64 0, .int .i64 0] 27 (0, 0))) := ⟨by rw [← hq_]; exact (bk_ BK408.out)⟩; have n6_ : Aside0 (w42.heap[gb421]? = some (.cells #[.int .i64 ji35, .int .i64 x422001_2] 27 (0, 0))) := ⟨by rw [← hq_]; exact (bk_ BK421.out)⟩; have n7_ : Aside0 (Below w.heap.size w w42) := ⟨by rw [← hq_]; exact (bl_ HB.out)⟩; clear HO_7 HO_8 BK405 BK406 BK407 BK408 BK421 HB hq_; have HO_7 := n0_; have HO_8 := n1_; have BK405 := n2_; have BK406 := n3_; have BK407 := n4_; have BK408 := n5_; have BK421 := n6_; have HB := n7_; clear n0_ n1_ n2_ n3_ n4_ n5_ n6_ n7_))
            have n0_ := Aside0.mk (Kd.R_drew HO_7.out)
            have n1_ := Aside0.mk (Kd.R_drew HO_8.out)
            have n2_ := Aside0.mk (blk_drew BK405.out)
            have n3_ := Aside0.mk (blk_drew BK406.out)
            have n4_ := Aside0.mk (blk_drew BK407.out)
            have n5_ := Aside0.mk (blk_drew BK408.out)
            have n6_ := Aside0.mk (blk_drew BK421.out)
            have n7_ := Aside0.mk (below_drew1 HB.out)
            clear HO_7 HO_8 BK405 BK406 BK407 BK408 BK421 HB
            have HO_7 := n0_
            have HO_8 := n1_
            have BK405 := n2_
            have BK406 := n3_
            have BK407 := n4_
            have BK408 := n5_
            have BK421 := n6_
            have HB := n7_
            clear n0_ n1_ n2_ n3_ n4_ n5_ n6_ n7_
            refine start_ (n := 8) (S := fun w' => w'.cell? ⟨gb421, 0, none⟩ = some (.int .i64 ji35) ∧ w'.cell? ⟨gb421, 1, none⟩ = some (.int .i64 x422001_2)) (ds := [7]) #[false, false, false, false, false, false, false, false] (by kernel_rfl) rfl rfl ⟨(blk_cell BK421.out 0).trans rfl, (blk_cell BK421.out 1).trans rfl⟩ (fun hHeld => ?_); refine with_tabW swashplateref01_boundP.tab12 swashplateref01_boundP.bits12 (fun HT_ HW_ => ?_)
            generalize w42.drew = w43 at HO_7 HO_8 BK405 BK406 BK407 BK408 BK421 HB hHeld ⊢
            refine pure_ (i := 0) (N := some 72) (v := ?_) (a' := ?_) #[true, false, false, false, false, false, false, false] rfl rfl (any_of HT_.out (by kernel_rfl)) (fun _ _ _ h => h) (Or.inl ⟨by rfl, ?_⟩) ?_ ?_
            rotate_left
            ·
             intro w'
             go_simp
             with_reducible rfl
            rotate_left
            ·
             simp only [Act.put, List.setIfInBounds_toArray, List.set_cons_zero, List.set_cons_succ, i64_w, i32_w]
             rfl
            refine pure_ (i := 2) (N := some 74) (v := ?_) (a' := ?_) #[true, false, true, false, false, false, false, false] rfl rfl (any_of HT_.out (by kernel_rfl)) (fun _ _ _ h => h) (Or.inl ⟨by rfl, ?_⟩) ?_ ?_
            rotate_left
            ·
             intro w'
             go_simp
             with_reducible rfl
            rotate_left
            ·
             simp only [Act.put, List.setIfInBounds_toArray, List.set_cons_zero, List.set_cons_succ, i64_w, i32_w]
             rfl
            refine pure_ (i := 3) (N := some 75) (v := ?_) (a' := ?_) #[true, false, true, true, false, false, false, false] rfl rfl (any_of HT_.out (by kernel_rfl)) (fun _ _ _ h => h) (Or.inl ⟨by rfl, ?_⟩) ?_ ?_
            rotate_left
            ·
             intro w'
             go_simp
             with_reducible rfl
            rotate_left
            ·
             simp only [Act.put, List.setIfInBounds_toArray, List.set_cons_zero, List.set_cons_succ, i64_w, i32_w]
             rfl
            refine take_ (i := 1) (N := some 73) (v := ?_) (a' := ?_) #[true, true, true, true, false, false, false, false] rfl rfl (take_ofW HT_.out HW_.out (by kernel_rfl)) (fun _ _ _ h => h) (Or.inl ⟨by rfl, ?_⟩) hHeld ?_ ?_
            rotate_left
            ·
             rintro w' ⟨s0, s1⟩
             go_simp
             with_reducible rfl
            rotate_left
            ·
             simp only [Act.put, List.setIfInBounds_toArray, List.set_cons_zero, List.set_cons_succ, i64_w, i32_w]
             rfl
            refine one_ (i := 4) (N := some 76) #[true, true, true, true, true, false, false, false] rfl rfl (one_of HT_.out (by kernel_rfl)) (by decide) (fun K hK => ?_)
            refine goes_ Try.func108 (by kernel_rfl) rfl #[.int .i64 t424, .int .i64 t425] (by rfl) rfl rfl (by (try simp only [List.map_toArray, List.map_cons, List.map_nil]); first | done | rfl | (simp only [List.length_drop, List.length_take]; rfl)) ?_
            with_reducible refine (swashplateref01_ceil.calls t424 t425 t427 _ A36.out).mono ?_
            rintro e w' ⟨rfl, ⟨nd, rfl⟩⟩
            refine ⟨_, rfl, ?_⟩
            refine hK.out _ _ ⟨(blk_cell BK421.out 0).trans rfl, (blk_cell BK421.out 1).trans rfl⟩ (fun hHeld => ?_)
            clear hK K
            refine norm_ (a' := ?_) ?_ ?_
            rotate_left
            ·
             show Act.put _ (some 76) _ = _
             simp only [Act.put, List.setIfInBounds_toArray, List.set_cons_zero, List.set_cons_succ, i64_w, i32_w]
             rfl
            refine pure_ (i := 5) (N := some 77) (v := ?_) (a' := ?_) #[true, true, true, true, true, true, false, false] rfl rfl (any_of HT_.out (by kernel_rfl)) (fun _ _ _ h => h) (Or.inl ⟨by rfl, ?_⟩) ?_ ?_
            rotate_left
            ·
             intro w'
             go_simp
             with_reducible rfl
            rotate_left
            ·
             simp only [Act.put, List.setIfInBounds_toArray, List.set_cons_zero, List.set_cons_succ, i64_w, i32_w]
             rfl
            refine pure_ (i := 6) (N := some 78) (v := ?_) (a' := ?_) #[true, true, true, true, true, true, true, false] rfl rfl (any_of HT_.out (by kernel_rfl)) (fun _ _ _ h => h) (Or.inl ⟨by rfl, ?_⟩) ?_ ?_
            rotate_left
            ·
             intro w'
             go_simp
             with_reducible rfl
            rotate_left
            ·
             simp only [Act.put, List.setIfInBounds_toArray, List.set_cons_zero, List.set_cons_succ, i64_w, i32_w]
             rfl
            refine last_ (i := 7) (N := none) #[true, true, true, true, true, true, true, true] rfl rfl (one_of HT_.out (by kernel_rfl)) (by decide) (fun K hK => ?_)
            have hs44 : w43.cell? ⟨gb421, 1, none⟩ = some (.int .i64 x422001_2) := (blk_cell BK421.out 1).trans rfl
            have hfs44 := blk_frozen BK421.out 1
            have hns44_0 := NB405_421.out
            have hns44_1 := NB406_421.out
            have hns44_2 := NB407_421.out
            have hns44_3 := NB408_421.out
            have hms44_0 := NB421_405.out
            have hms44_1 := NB421_406.out
            have hms44_2 := NB421_407.out
            have hms44_3 := NB421_408.out
            refine skip_ (w1 := ?_) (by rfl) rfl ?_ ?_
            rotate_left
            ·
             go_simp
             rfl
            refine hK.out _ _ ?_
            clear hK K
            refine done_ (done_of HT_.out (by kernel_rfl)) ?_
            try go_wp2
            go_roundg k2
            case measure => have := HK1.out; have := HK2.out; omega
            case rel => exact ⟨(wrap64 (x13_2 + 1)), (ji35), (ji37), (by first | rfl | (simp; done) | (simp [*]; done)), H', ⟨by have := HK1.out; have := HK2.out; omega⟩, ⟨by (with_reducible repeat (first | apply Kd.R_alloc | apply Kd.R_drewN | apply Kd.R_drew)); exact Kd.R_mono (Kd.R_far (p := ⟨gb421, 1, none⟩) (Kd.R_types HO_7.out BK421.out (by decide)) (fun _ hk => hk.2) (.int .i64 ji37)) (fun _ hk => hk.1)⟩, ⟨by (with_reducible repeat (first | apply Kd.R_alloc | apply Kd.R_drewN | apply Kd.R_drew)); exact Kd.R_mono (Kd.R_far (p := ⟨gb421, 1, none⟩) (Kd.R_types HO_8.out BK421.out (by decide)) (fun _ hk => hk.2) (.int .i64 ji37)) (fun _ hk => hk.1)⟩, ⟨by (with_reducible repeat (first | refine blk_drewN ?_ _ | refine blk_drew ?_ | refine blk_alloc ?_ _)); refine blk_far ?_ NB405_421.out _; (with_reducible repeat (first | refine blk_drewN ?_ _ | refine blk_drew ?_ | refine blk_alloc ?_ _)); exact BK405.out⟩, ⟨by (with_reducible repeat (first | refine blk_drewN ?_ _ | refine blk_drew ?_ | refine blk_alloc ?_ _)); refine blk_far ?_ NB406_421.out _; (with_reducible repeat (first | refine blk_drewN ?_ _ | refine blk_drew ?_ | refine blk_alloc ?_ _)); exact BK406.out⟩, ⟨by (with_reducible repeat (first | refine blk_drewN ?_ _ | refine blk_drew ?_ | refine blk_alloc ?_ _)); refine blk_far ?_ NB407_421.out _; (with_reducible repeat (first | refine blk_drewN ?_ _ | refine blk_drew ?_ | refine blk_alloc ?_ _)); exact BK407.out⟩, ⟨by (with_reducible repeat (first | refine blk_drewN ?_ _ | refine blk_drew ?_ | refine blk_alloc ?_ _)); refine blk_far ?_ NB408_421.out _; (with_reducible repeat (first | refine blk_drewN ?_ _ | refine blk_drew ?_ | refine blk_alloc ?_ _)); exact BK408.out⟩, ⟨by (with_reducible repeat (first | refine blk_drewN ?_ _ | refine blk_drew ?_ | refine blk_alloc ?_ _)); refine blk_put (cs := #[.int .i64 ji35, .int .i64 x422001_2]) ?_ 1 _ rfl; (with_reducible repeat (first | refine blk_drewN ?_ _ | refine blk_drew ?_ | refine blk_alloc ?_ _)); exact BK421.out⟩, ⟨bl_ HB.out⟩⟩
           ·
            rw [if_neg c32] at H
            exact absurd H (by simp)
          ·
           rw [if_neg c31] at H
           exact absurd H (by simp)
         ·
          rw [if_neg c30] at H
          exact absurd H (by simp)
        ·
         rw [if_neg c29] at H
         have c29b0 : decide (x13_2 < (t412.length : Int)) = false := decide_eq_false c29
         clear c29
         have H' := Aside0.mk H
         clear H
         go_wp2
         go_roundg k2
         case measure => have := HK1.out; have := HK2.out; omega
         case rel => exact ⟨(wrap64 (x12_1 + 1)), (x422000_2), (x422001_2), (by first | rfl | (simp; done) | (simp [*]; done)), H', ⟨by have := HK1.out; have := HK2.out; omega⟩, ⟨by (with_reducible repeat (first | apply Kd.R_alloc | apply Kd.R_drewN | apply Kd.R_drew)); exact HO_7.out⟩, ⟨by (with_reducible repeat (first | apply Kd.R_alloc | apply Kd.R_drewN | apply Kd.R_drew)); exact HO_8.out⟩, ⟨bk_ BK405.out⟩, ⟨bk_ BK406.out⟩, ⟨bk_ BK407.out⟩, ⟨bk_ BK408.out⟩, ⟨bk_ BK421.out⟩, ⟨bl_ HB.out⟩⟩
     ·
      rw [if_neg c28] at H
      have c28b0 : decide (x12_1 < (t409.length : Int)) = false := decide_eq_false c28
      clear c28
      simp only [Option.some.injEq, Prod.mk.injEq] at H
      obtain ⟨rfl, rfl⟩ := H
      have hnb45 := NB421_405.out
      have hnc45 := NB405_421.out
      have hnb46 := NB421_406.out
      have hnc46 := NB406_421.out
      have hnb47 := NB421_407.out
      have hnc47 := NB407_421.out
      have hnb48 := NB421_408.out
      have hnc48 := NB408_421.out
      have hcz49_0 : wr.cell? ⟨gb421, 0, none⟩ = some (.int .i64 x422000_1) := (blk_cell BK421.out 0).trans rfl
      have hcz49_1 : wr.cell? ⟨gb421, 1, none⟩ = some (.int .i64 x422001_1) := (blk_cell BK421.out 1).trans rfl
      have hfz49_0 := blk_frozen BK421.out 0
      have hfz49_1 := blk_frozen BK421.out 1
      have hnb50 := NB408_405.out
      have hnc50 := NB405_408.out
      have hnb51 := NB408_406.out
      have hnc51 := NB406_408.out
      have hnb52 := NB408_407.out
      have hnc52 := NB407_408.out
      have hcz53_0 : wr.cell? ⟨gb408, 0, none⟩ = some (.int .i64 0) := (blk_cell BK408.out 0).trans rfl
      have hcz53_1 : wr.cell? ⟨gb408, 1, none⟩ = some (.int .i64 0) := (blk_cell BK408.out 1).trans rfl
      have hfz53_0 := blk_frozen BK408.out 0
      have hfz53_1 := blk_frozen BK408.out 1
      go_wp2
      refine bodyPost_ret (results_cell_row rfl _ _ gb408 27 #[.int .i64 x422000_1, .int .i64 x422001_1] (0, 0) _ rfl (by (with_reducible repeat (first | refine blk_drewN ?_ _ | refine blk_drew ?_ | refine blk_alloc ?_ _)); refine blk_put (cs := #[.int .i64 x422000_1, .int .i64 0]) ?_ 1 _ rfl; (with_reducible repeat (first | refine blk_drewN ?_ _ | refine blk_drew ?_ | refine blk_alloc ?_ _)); refine blk_put (cs := #[.int .i64 0, .int .i64 0]) ?_ 0 _ rfl; (with_reducible repeat (first | refine blk_drewN ?_ _ | refine blk_drew ?_ | refine blk_alloc ?_ _)); exact BK408.out) Try.underlying27 rfl (by kernel_rfl)) rfl ?_
      exact ⟨by first | rfl | (simp [errW_none, errW_some] <;> rfl) | (simp [*, errW_none, errW_some] <;> rfl), bl_ HB.out⟩
  ·
   rw [if_neg c7] at H
   exact absurd H (by simp)
 ·
  rw [if_neg c6] at H
  exact absurd H (by simp)
end Go.Proofs.Yteodlmgmmpkpoaa.PS
end
section
namespace Go.Proofs.Yteodlmgmmpkpoaa.PS
open Go.RowKit Go.Proofs.YteodlmgmmpkpoaaW.PrintWords Go.Proofs.YteodlmgmmpkpoaaW.PrintLast Go.Proofs.YteodlmgmmpkpoaaW.PrintMore
set_option linter.unusedVariables false
theorem mn_min (a b : Int) : mn a b = min a b := by unfold mn; split <;> omega
theorem mx_max (a b : Int) : mx a b = max a b := by unfold mx; split <;> omega
theorem boundP_loop {X Y : List Int} {V : List (List Int)} (ht : tableB X Y V = true) (xs ys : List Int) (hx : ∀ i, i < xs.length → onB X (gI xs i) (gI xs i) = true) (hy : ∀ j, j < ys.length → onB Y (gI ys j) (gI ys j) = true)
    (hxl : xs.length ≤ 14) (hyl : ys.length ≤ 14) : ∀ k : Nat,
    (∀ (i : Nat) (lo hi : Int), i ≤ xs.length → 20 * (xs.length - i) < k → swashplateref01_boundP.l0 k xs ys i X Y V lo hi = some (foldLo (gridL (xs.drop i) ys (ptRef X Y V)) lo, foldHi (gridL (xs.drop i) ys (ptRef X Y V)) hi)) ∧
    (∀ (i j : Nat) (lo hi : Int), i < xs.length → j ≤ ys.length → 20 * (xs.length - (i + 1)) + (ys.length - j) + 1 < k → swashplateref01_boundP.l1 k xs ys i j X Y V lo hi =
      some (foldLo ((ys.drop j).map (ptRef X Y V (gI xs i)) ++ gridL (xs.drop (i + 1)) ys (ptRef X Y V)) lo, foldHi ((ys.drop j).map (ptRef X Y V (gI xs i)) ++ gridL (xs.drop (i + 1)) ys (ptRef X Y V)) hi))
  | 0 => ⟨fun _ _ _ _ h => absurd h (Nat.not_lt_zero _), fun _ _ _ _ _ _ h => absurd h (Nat.not_lt_zero _)⟩
  | k + 1 => by
    obtain ⟨ih0, ih1⟩ := boundP_loop ht xs ys hx hy hxl hyl k
    refine ⟨fun i lo hi hi' hk => ?_, fun i j lo hi hi' hj hk => ?_⟩
    · simp only [swashplateref01_boundP.l0]
      by_cases hlt : i < xs.length
      · rw [if_pos (by omega)]
        have := ih1 i 0 lo hi hlt (Nat.zero_le _) (by omega)
        rw [show ((0 : Nat) : Int) = 0 from rfl, List.drop_zero] at this
        rw [this, drop_step xs i hlt]
        rfl
      · rw [if_neg (by omega), List.drop_of_length_le (by omega)]
        rfl
    · simp only [swashplateref01_boundP.l1]
      by_cases hlt : j < ys.length
      · rw [if_pos (by omega), if_pos (by omega), if_pos (by omega), if_pos (by omega), rd_nat, rd_nat, value_total ht (hx i hi') (hy j hlt), Option.bind_some]
        dsimp only
        have hg := good_ref ht (hx i hi') (hy j hlt)
        rw [good_rfl hg, Option.bind_some, good_rce hg, Option.bind_some, step64 j (by omega), drop_step ys j hlt, List.map_cons, List.cons_append, mn_min, mx_max]
        exact ih1 i (j + 1) _ _ hi' (by omega) (by omega)
      · rw [if_neg (by omega), List.drop_of_length_le (by omega), List.map_nil, List.nil_append, step64 i (by omega)]
        exact ih0 (i + 1) lo hi (by omega) (by omega)
theorem boundP_total {X Y : List Int} {V : List (List Int)} {a0 a1 b0 b1 : Int} (h : Box2 X Y V a0 a1 b0 b1) : swashplateref01_boundP.f 1000 X Y V a0 a1 b0 b1 =
    some (foldLo (ptsR X Y V a0 a1 b0 b1) (flP (headP (ptsR X Y V a0 a1 b0 b1))), foldHi (ptsR X Y V a0 a1 b0 b1) (ceP (headP (ptsR X Y V a0 a1 b0 b1)))) := by
  unfold swashplateref01_boundP.f
  have t := tb_of h.tab
  have p0 := stops_pos X a0 a1
  have p1 := stops_pos Y b0 b1
  have g0 : rd (stopsL X a0 a1) 0 = a0 := rfl
  have g1 : rd (stopsL Y b0 b1) 0 = b0 := rfl
  have ex : ∀ i, i < (stopsL X a0 a1).length → onB X (gI (stopsL X a0 a1) i) (gI (stopsL X a0 a1) i) = true := fun i hi => (h.stx (gI_mem _ _ hi)).1
  have ey : ∀ j, j < (stopsL Y b0 b1).length → onB Y (gI (stopsL Y b0 b1) j) (gI (stopsL Y b0 b1) j) = true := fun j hj => (h.sty (gI_mem _ _ hj)).1
  have ex0 : onB X a0 a0 = true := ex 0 p0
  have ey0 : onB Y b0 b0 = true := ey 0 p1
  have hg := good_ref h.tab ex0 ey0
  rw [rcorners_total X t.ax.most a0 a1 1000 (by omega), Option.bind_some, rcorners_total Y t.ay.most b0 b1 1000 (by omega), Option.bind_some, if_pos (by omega), if_pos (by omega), g0, g1, value_total h.tab ex0 ey0, Option.bind_some]
  dsimp only
  rw [good_rfl hg, Option.bind_some, good_rce hg, Option.bind_some]
  have hl := (boundP_loop h.tab (stopsL X a0 a1) (stopsL Y b0 b1) ex ey (stops_len t.ax.most a0 a1) (stops_len t.ay.most b0 b1) 1000).1 0 (flP (ptRef X Y V a0 b0)) (ceP (ptRef X Y V a0 b0)) (Nat.zero_le _) (by have := stops_len t.ax.most a0 a1; omega)
  rw [List.drop_zero, show ((0 : Nat) : Int) = 0 from rfl] at hl
  obtain ⟨s, hs⟩ := grid_cons X Y a0 a1 b0 b1 (ptRef X Y V)
  rw [hl]
  unfold ptsR
  rw [show headP (gridL (stopsL X a0 a1) (stopsL Y b0 b1) (ptRef X Y V)) = ptRef X Y V a0 b0 by rw [hs]; rfl]
theorem swashplateref01_bound.calls (A0_0 : Option Addr) (c0_0 : Nat) (l0_0 : List Int) (A0_1 : Option Addr) (c0_1 : Nat) (l0_1 : List Int) (A0_2 : Option Addr) (c0_2 : Nat) (l0_2 : List (List Int)) (a1_0 : Int) (a1_1 : Int) (a2_0 : Int) (a2_1 : Int) (r1 : Int) (r2 : Int) (w : World) (hr0_0 : Kd.C (Kd.int .i64) w A0_0 l0_0.length l0_0) (hc0_0 : l0_0.length ≤ c0_0) (hr0_1 : Kd.C (Kd.int .i64) w A0_1 l0_1.length l0_1) (hc0_1 : l0_1.length ≤ c0_1) (hr0_2 : Kd.C (Kd.slice 3 (Kd.int .i64)) w A0_2 l0_2.length l0_2) (hc0_2 : l0_2.length ≤ c0_2) (h : swashplateref01_bound.f l0_0 l0_1 l0_2 a1_0 a1_1 a2_0 a2_1 = some (r1, r2)) :
    Calls Try.prog 92 #[.agg #[.slice A0_0 l0_0.length c0_0, .slice A0_1 l0_1.length c0_1, .slice A0_2 l0_2.length c0_2], .agg #[.int .i64 a1_0, .int .i64 a1_1], .agg #[.int .i64 a2_0, .int .i64 a2_1]] w fun e w' => e = .returned (.agg #[.int .i64 r1, .int .i64 r2]) ∧ Below w.heap.size w w' := by
  unfold swashplateref01_bound.f at h
  by_cases hp : pointsB l0_0 l0_1 l0_2 a1_0 a1_1 a2_0 a2_1 = true
  · rw [if_pos hp] at h
    exact swashplateref01_boundP.calls 1000 A0_0 c0_0 l0_0 A0_1 c0_1 l0_1 A0_2 c0_2 l0_2 a1_0 a1_1 a2_0 a2_1 r1 r2 w hr0_0 hc0_0 hr0_1 hc0_1 hr0_2 hc0_2 ((boundP_total (box2_of hp)).trans h)
  · rw [if_neg hp] at h
    cases h
end Go.Proofs.Yteodlmgmmpkpoaa.PS
end
section
namespace Go.Proofs.Yteodlmgmmpkpoaa.PS
open Go.RowKit Go.Proofs.YteodlmgmmpkpoaaW.PrintWords Go.Proofs.YteodlmgmmpkpoaaW.PrintLast Go.Proofs.YteodlmgmmpkpoaaW.PrintMore
attribute [local go_sem] max2_int min2_int max_two min_two max_three min_three max_four min_four   -- for this text's walks alone
set_option linter.unusedVariables false
set_option linter.unusedSimpArgs false
def swashplateref01_Bound.f (k : Nat) (l0_0 : List Int) (l0_1 : List Int) (l0_2 : List (List Int)) (a1_0 : Int) (a1_1 : Int) (a2_0 : Int) (a2_1 : Int) : Option (Int × Int × Int) := (swashplateref01_CheckBound.f k l0_0 l0_1 l0_2 a1_0 a1_1 a2_0 a2_1).bind fun t446 => (if t446 = 0 then ((swashplateref01_bound.f l0_0 l0_1 l0_2 a1_0 a1_1 a2_0 a2_1).bind fun bt447 => (some (bt447.1, bt447.2, 0))) else (some (0, 0, t446)))
set_option maxHeartbeats 8000000 in
set_option maxRecDepth 100000 in
theorem swashplateref01_Bound.calls (k : Nat) (A0_0 : Option Addr) (c0_0 : Nat) (l0_0 : List Int) (A0_1 : Option Addr) (c0_1 : Nat) (l0_1 : List Int) (A0_2 : Option Addr) (c0_2 : Nat) (l0_2 : List (List Int)) (a1_0 : Int) (a1_1 : Int) (a2_0 : Int) (a2_1 : Int) (r1 : Int) (r2 : Int) (r3 : Int) (w : World) (hr0_0 : Kd.C (Kd.int .i64) w A0_0 l0_0.length l0_0) (hc0_0 : l0_0.length ≤ c0_0) (hr0_1 : Kd.C (Kd.int .i64) w A0_1 l0_1.length l0_1) (hc0_1 : l0_1.length ≤ c0_1) (hr0_2 : Kd.C (Kd.slice 3 (Kd.int .i64)) w A0_2 l0_2.length l0_2) (hc0_2 : l0_2.length ≤ c0_2) (h : swashplateref01_Bound.f k l0_0 l0_1 l0_2 a1_0 a1_1 a2_0 a2_1 = some (r1, r2, r3)) :
  Calls Try.prog 31 #[.agg #[.slice A0_0 l0_0.length c0_0, .slice A0_1 l0_1.length c0_1, .slice A0_2 l0_2.length c0_2], .agg #[.int .i64 a1_0, .int .i64 a1_1], .agg #[.int .i64 a2_0, .int .i64 a2_1]] w fun e w' => e = .returned (.tuple #[.agg #[.int .i64 r1, .int .i64 r2], .int .i64 r3]) ∧ Below w.heap.size w w' := by
 have hu25 := Try.underlying25
 have hu27 := Try.underlying27
 have HR0_0 := Aside0.mk hr0_0
 have HC0_0 := Aside0.mk hc0_0
 clear hr0_0 hc0_0
 have HR0_1 := Aside0.mk hr0_1
 have HC0_1 := Aside0.mk hc0_1
 clear hr0_1 hc0_1
 have HR0_2 := Aside0.mk hr0_2
 have HC0_2 := Aside0.mk hc0_2
 clear hr0_2 hc0_2
 have HB := Aside0.mk (Below.refl w.heap.size w)
 have H : ((swashplateref01_CheckBound.f k l0_0 l0_1 l0_2 a1_0 a1_1 a2_0 a2_1).bind fun t446 => (if t446 = 0 then ((swashplateref01_bound.f l0_0 l0_1 l0_2 a1_0 a1_1 a2_0 a2_1).bind fun bt447 => (some (bt447.1, bt447.2, 0))) else (some (0, 0, t446)))) = some (r1, r2, r3) := h
 clear h
 replace H := Option.bind_eq_some_iff.mp H
 obtain ⟨t446, A40, H⟩ := H
 replace H : (if t446 = 0 then ((swashplateref01_bound.f l0_0 l0_1 l0_2 a1_0 a1_1 a2_0 a2_1).bind fun bt447 => (some (bt447.1, bt447.2, 0))) else (some (0, 0, t446))) = some (r1, r2, r3) := H
 have A4 := Aside0.mk A40
 clear A40
 by_cases c5 : t446 = 0
 ·
  rw [if_pos c5] at H
  have c5b0 : (t446 == 0) = true := beq_iff_eq.mpr c5
  have c5b1 : (t446 != 0) = false := bne_eq_false_iff_eq.mpr c5
  clear c5
  replace H := Option.bind_eq_some_iff.mp H
  obtain ⟨⟨t447, t448⟩, A60, H⟩ := H
  replace H : (some (t447, t448, 0)) = some (r1, r2, r3) := H
  have A6 := Aside0.mk A60
  clear A60
  simp only [Option.some.injEq, Prod.mk.injEq] at H
  obtain ⟨rfl, rfl, rfl⟩ := H
  go_enter Try.func31, Try.ntmps31
  go_wp2_with (first | ((with_reducible refine gate_dst (N := 3) rfl ?_); refine box_event ?hg (N := 3) ?hd (cs := #[.slice A0_0 l0_0.length c0_0, .slice A0_1 l0_1.length c0_1, .slice A0_2 l0_2.length c0_2]) (t := 25) ?hr ?_; (case hd => rfl); (case hg => rfl); (case hr => first | (go_simp; done) | (go_simp; rfl)); intro gb442 hg w7 hbox hb; have n0_ := Aside0.mk (below_step (bl_ HB.out) hb); have n1_ := Aside0.mk (hbox); have n2_ := Aside0.mk (szl_ hg HB.out); have n3_ := Aside0.mk (szl_ hg HB.out); clear HB; have HB := n0_; have BK442 := n1_; have GW442 := n2_; have GE442 := n3_; clear n0_ n1_ n2_ n3_ hb hbox hg) | ((with_reducible refine gate_dst (N := 4) rfl ?_); refine box_event ?hg (N := 4) ?hd (cs := #[.int .i64 a1_0, .int .i64 a1_1]) (t := 27) ?hr ?_; (case hd => rfl); (case hg => rfl); (case hr => first | (go_simp; done) | (go_simp; rfl)); intro gb443 hg w8 hbox hb; have n0_ := Aside0.mk (blk_below (bk_ BK442.out) hb); have n1_ := Aside0.mk (below_step (bl_ HB.out) hb); have n2_ := Aside0.mk (hbox); have n3_ := Aside0.mk (szl_ hg HB.out); have n4_ := Aside0.mk (szl_ hg HB.out); have n5_ := Aside0.mk (nel_ hg BK442.out); have n6_ := Aside0.mk (ner_ hg BK442.out); clear BK442 HB; have BK442 := n0_; have HB := n1_; have BK443 := n2_; have GW443 := n3_; have GE443 := n4_; have NB442_443 := n5_; have NB443_442 := n6_; clear n0_ n1_ n2_ n3_ n4_ n5_ n6_ hb hbox hg) | ((with_reducible refine gate_dst (N := 5) rfl ?_); refine box_event ?hg (N := 5) ?hd (cs := #[.int .i64 a2_0, .int .i64 a2_1]) (t := 27) ?hr ?_; (case hd => rfl); (case hg => rfl); (case hr => first | (go_simp; done) | (go_simp; rfl)); intro gb444 hg w9 hbox hb; have n0_ := Aside0.mk (blk_below (bk_ BK442.out) hb); have n1_ := Aside0.mk (blk_below (bk_ BK443.out) hb); have n2_ := Aside0.mk (below_step (bl_ HB.out) hb); have n3_ := Aside0.mk (hbox); have n4_ := Aside0.mk (szl_ hg HB.out); have n5_ := Aside0.mk (szl_ hg HB.out); have n6_ := Aside0.mk (nel_ hg BK442.out); have n7_ := Aside0.mk (ner_ hg BK442.out); have n8_ := Aside0.mk (nel_ hg BK443.out); have n9_ := Aside0.mk (ner_ hg BK443.out); clear BK442 BK443 HB; have BK442 := n0_; have BK443 := n1_; have HB := n2_; have BK444 := n3_; have GW444 := n4_; have GE444 := n5_; have NB442_444 := n6_; have NB444_442 := n7_; have NB443_444 := n8_; have NB444_443 := n9_; clear n0_ n1_ n2_ n3_ n4_ n5_ n6_ n7_ n8_ n9_ hb hbox hg) | ((with_reducible refine gate_dst (N := 6) rfl ?_); refine box_event ?hg (N := 6) ?hd (cs := #[.int .i64 0, .int .i64 0]) (t := 27) ?hr ?_; (case hd => rfl); (case hg => rfl); (case hr => first | (go_simp; done) | (go_simp; rfl)); intro gb445 hg w10 hbox hb; have n0_ := Aside0.mk (blk_below (bk_ BK442.out) hb); have n1_ := Aside0.mk (blk_below (bk_ BK443.out) hb); have n2_ := Aside0.mk (blk_below (bk_ BK444.out) hb); have n3_ := Aside0.mk (below_step (bl_ HB.out) hb); have n4_ := Aside0.mk (hbox); have n5_ := Aside0.mk (szl_ hg HB.out); have n6_ := Aside0.mk (szl_ hg HB.out); have n7_ := Aside0.mk (nel_ hg BK442.out); have n8_ := Aside0.mk (ner_ hg BK442.out); have n9_ := Aside0.mk (nel_ hg BK443.out); have n10_ := Aside0.mk (ner_ hg BK443.out); have n11_ := Aside0.mk (nel_ hg BK444.out); have n12_ := Aside0.mk (ner_ hg BK444.out); clear BK442 BK443 BK444 HB; have BK442 := n0_; have BK443 := n1_; have BK444 := n2_; have HB := n3_; have BK445 := n4_; have GW445 := n5_; have GE445 := n6_; have NB442_445 := n7_; have NB445_442 := n8_; have NB443_445 := n9_; have NB445_443 := n10_; have NB444_445 := n11_; have NB445_444 := n12_; clear n0_ n1_ n2_ n3_ n4_ n5_ n6_ n7_ n8_ n9_ n10_ n11_ n12_ hb hbox hg; have hnb11 := NB442_443.out; have hnc11 := NB443_442.out; have hnb12 := NB442_444.out; have hnc12 := NB444_442.out; have hnb13 := NB442_445.out; have hnc13 := NB445_442.out; have hcz14_0 : w10.cell? ⟨gb442, 0, none⟩ = some (.slice A0_0 l0_0.length c0_0) := (blk_cell BK442.out 0).trans rfl; have hcz14_1 : w10.cell? ⟨gb442, 1, none⟩ = some (.slice A0_1 l0_1.length c0_1) := (blk_cell BK442.out 1).trans rfl; have hcz14_2 : w10.cell? ⟨gb442, 2, none⟩ = some (.slice A0_2 l0_2.length c0_2) := (blk_cell BK442.out 2).trans rfl; have hfz14_0 := blk_frozen BK442.out 0; have hfz14_1 := blk_frozen BK442.out 1; have hfz14_2 := blk_frozen BK442.out 2; have hnb15 := NB443_444.out; have hnc15 := NB444_443.out; have hnb16 := NB443_445.out; have hnc16 := NB445_443.out; have hcz17_0 : w10.cell? ⟨gb443, 0, none⟩ = some (.int .i64 a1_0) := (blk_cell BK443.out 0).trans rfl; have hcz17_1 : w10.cell? ⟨gb443, 1, none⟩ = some (.int .i64 a1_1) := (blk_cell BK443.out 1).trans rfl; have hfz17_0 := blk_frozen BK443.out 0; have hfz17_1 := blk_frozen BK443.out 1; have hnb18 := NB444_445.out; have hnc18 := NB445_444.out; have hcz19_0 : w10.cell? ⟨gb444, 0, none⟩ = some (.int .i64 a2_0) := (blk_cell BK444.out 0).trans rfl; have hcz19_1 : w10.cell? ⟨gb444, 1, none⟩ = some (.int .i64 a2_1) := (blk_cell BK444.out 1).trans rfl; have hfz19_0 := blk_frozen BK444.out 0; have hfz19_1 := blk_frozen BK444.out 1) | ((with_reducible refine gate_callee (f := 52) rfl ?_); refine goesL_ (some 12) rfl rfl Try.func52 (by kernel_rfl) rfl #[.agg #[.slice A0_0 l0_0.length c0_0, .slice A0_1 l0_1.length c0_1, .slice A0_2 l0_2.length c0_2], .agg #[.int .i64 a1_0, .int .i64 a1_1], .agg #[.int .i64 a2_0, .int .i64 a2_1]] rfl (by (try simp only [List.map_toArray, List.map_cons, List.map_nil]); first | done | rfl | (simp only [List.length_drop, List.length_take]; rfl)) ?_; (with_reducible refine (swashplateref01_CheckBound.calls k _ _ l0_0 _ _ l0_1 _ _ l0_2 a1_0 a1_1 a2_0 a2_1 t446 _ ?side1 ?side2 ?side3 ?side4 ?side5 ?side6 A4.out).mono ?_); (case side1 => exact cr_ (Kd.C_below HR0_0.out HB.out)); (case side2 => exact HC0_0.out); (case side3 => exact cr_ (Kd.C_below HR0_1.out HB.out)); (case side4 => exact HC0_1.out); (case side5 => exact cr_ (Kd.C_below HR0_2.out HB.out)); (case side6 => exact HC0_2.out); rintro e w20 ⟨rfl, hb⟩; refine ⟨_, rfl, ?_⟩; have n0_ := Aside0.mk (blk_below (bk_ BK442.out) hb); have n1_ := Aside0.mk (blk_below (bk_ BK443.out) hb); have n2_ := Aside0.mk (blk_below (bk_ BK444.out) hb); have n3_ := Aside0.mk (blk_below (bk_ BK445.out) hb); have n4_ := Aside0.mk (below_step (bl_ HB.out) hb); clear BK442 BK443 BK444 BK445 HB; have BK442 := n0_; have BK443 := n1_; have BK444 := n2_; have BK445 := n3_; have HB := n4_; clear n0_ n1_ n2_ n3_ n4_; (try clear hb); (try clear hb2); (try clear hk); (try clear hi); have hcz21_0 : w20.cell? ⟨gb442, 0, none⟩ = some (.slice A0_0 l0_0.length c0_0) := (blk_cell BK442.out 0).trans rfl; have hcz21_1 : w20.cell? ⟨gb442, 1, none⟩ = some (.slice A0_1 l0_1.length c0_1) := (blk_cell BK442.out 1).trans rfl; have hcz21_2 : w20.cell? ⟨gb442, 2, none⟩ = some (.slice A0_2 l0_2.length c0_2) := (blk_cell BK442.out 2).trans rfl; have hfz21_0 := blk_frozen BK442.out 0; have hfz21_1 := blk_frozen BK442.out 1; have hfz21_2 := blk_frozen BK442.out 2; have hcz22_0 : w20.cell? ⟨gb443, 0, none⟩ = some (.int .i64 a1_0) := (blk_cell BK443.out 0).trans rfl; have hcz22_1 : w20.cell? ⟨gb443, 1, none⟩ = some (.int .i64 a1_1) := (blk_cell BK443.out 1).trans rfl; have hfz22_0 := blk_frozen BK443.out 0; have hfz22_1 := blk_frozen BK443.out 1; have hcz23_0 : w20.cell? ⟨gb444, 0, none⟩ = some (.int .i64 a2_0) := (blk_cell BK444.out 0).trans rfl; have hcz23_1 : w20.cell? ⟨gb444, 1, none⟩ = some (.int .i64 a2_1) := (blk_cell BK444.out 1).trans rfl; have hfz23_0 := blk_frozen BK444.out 0; have hfz23_1 := blk_frozen BK444.out 1) | ((with_reducible refine gate_callee (f := 92) rfl ?_); refine goesL_ (some 20) rfl rfl Try.func92 (by kernel_rfl) rfl #[.agg #[.slice A0_0 l0_0.length c0_0, .slice A0_1 l0_1.length c0_1, .slice A0_2 l0_2.length c0_2], .agg #[.int .i64 a1_0, .int .i64 a1_1], .agg #[.int .i64 a2_0, .int .i64 a2_1]] rfl (by (try simp only [List.map_toArray, List.map_cons, List.map_nil]); first | done | rfl | (simp only [List.length_drop, List.length_take]; rfl)) ?_; (with_reducible refine (swashplateref01_bound.calls _ _ l0_0 _ _ l0_1 _ _ l0_2 a1_0 a1_1 a2_0 a2_1 t447 t448 _ ?side1 ?side2 ?side3 ?side4 ?side5 ?side6 A6.out).mono ?_); (case side1 => exact cr_ (Kd.C_below HR0_0.out HB.out)); (case side2 => exact HC0_0.out); (case side3 => exact cr_ (Kd.C_below HR0_1.out HB.out)); (case side4 => exact HC0_1.out); (case side5 => exact cr_ (Kd.C_below HR0_2.out HB.out)); (case side6 => exact HC0_2.out); rintro e w24 ⟨rfl, hb⟩; refine ⟨_, rfl, ?_⟩; have n0_ := Aside0.mk (blk_below (bk_ BK442.out) hb); have n1_ := Aside0.mk (blk_below (bk_ BK443.out) hb); have n2_ := Aside0.mk (blk_below (bk_ BK444.out) hb); have n3_ := Aside0.mk (blk_below (bk_ BK445.out) hb); have n4_ := Aside0.mk (below_step (bl_ HB.out) hb); clear BK442 BK443 BK444 BK445 HB; have BK442 := n0_; have BK443 := n1_; have BK444 := n2_; have BK445 := n3_; have HB := n4_; clear n0_ n1_ n2_ n3_ n4_; (try clear hb); (try clear hb2); (try clear hk); (try clear hi); have hcz25_0 : w24.cell? ⟨gb445, 0, none⟩ = some (.int .i64 0) := (blk_cell BK445.out 0).trans rfl; have hcz25_1 : w24.cell? ⟨gb445, 1, none⟩ = some (.int .i64 0) := (blk_cell BK445.out 1).trans rfl; have hfz25_0 := blk_frozen BK445.out 0; have hfz25_1 := blk_frozen BK445.out 1))
  refine bodyPost_ret (results_ct rfl _ _ gb445 27 #[.int .i64 t447, .int .i64 t448] (0, 0) _ rfl (by (with_reducible repeat (first | refine blk_drewN ?_ _ | refine blk_drew ?_ | refine blk_alloc ?_ _)); refine blk_put (cs := #[.int .i64 t447, .int .i64 0]) ?_ 1 _ rfl; (with_reducible repeat (first | refine blk_drewN ?_ _ | refine blk_drew ?_ | refine blk_alloc ?_ _)); refine blk_put (cs := #[.int .i64 0, .int .i64 0]) ?_ 0 _ rfl; (with_reducible repeat (first | refine blk_drewN ?_ _ | refine blk_drew ?_ | refine blk_alloc ?_ _)); exact BK445.out) Try.underlying27 rfl (by kernel_rfl)) rfl ?_
  exact ⟨by first | rfl | (simp [errW_none, errW_some] <;> rfl) | (simp [*, errW_none, errW_some] <;> rfl), bl_ HB.out⟩
 ·
  rw [if_neg c5] at H
  have c5b0 : (t446 == 0) = false := beq_eq_false_iff_ne.mpr c5
  have c5b1 : (t446 != 0) = true := bne_iff_ne.mpr c5
  simp only [Option.some.injEq, Prod.mk.injEq] at H
  obtain ⟨rfl, rfl, rfl⟩ := H
  go_enter Try.func31, Try.ntmps31
  go_wp2_with (first | ((with_reducible refine gate_dst (N := 3) rfl ?_); refine box_event ?hg (N := 3) ?hd (cs := #[.slice A0_0 l0_0.length c0_0, .slice A0_1 l0_1.length c0_1, .slice A0_2 l0_2.length c0_2]) (t := 25) ?hr ?_; (case hd => rfl); (case hg => rfl); (case hr => first | (go_simp; done) | (go_simp; rfl)); intro gb442 hg w26 hbox hb; have n0_ := Aside0.mk (below_step (bl_ HB.out) hb); have n1_ := Aside0.mk (hbox); have n2_ := Aside0.mk (szl_ hg HB.out); have n3_ := Aside0.mk (szl_ hg HB.out); clear HB; have HB := n0_; have BK442 := n1_; have GW442 := n2_; have GE442 := n3_; clear n0_ n1_ n2_ n3_ hb hbox hg) | ((with_reducible refine gate_dst (N := 4) rfl ?_); refine box_event ?hg (N := 4) ?hd (cs := #[.int .i64 a1_0, .int .i64 a1_1]) (t := 27) ?hr ?_; (case hd => rfl); (case hg => rfl); (case hr => first | (go_simp; done) | (go_simp; rfl)); intro gb443 hg w27 hbox hb; have n0_ := Aside0.mk (blk_below (bk_ BK442.out) hb); have n1_ := Aside0.mk (below_step (bl_ HB.out) hb); have n2_ := Aside0.mk (hbox); have n3_ := Aside0.mk (szl_ hg HB.out); have n4_ := Aside0.mk (szl_ hg HB.out); have n5_ := Aside0.mk (nel_ hg BK442.out); have n6_ := Aside0.mk (ner_ hg BK442.out); clear BK442 HB; have BK442 := n0_; have HB := n1_; have BK443 := n2_; have GW443 := n3_; have GE443 := n4_; have NB442_443 := n5_; have NB443_442 := n6_; clear n0_ n1_ n2_ n3_ n4_ n5_ n6_ hb hbox hg) | ((with_reducible refine gate_dst (N := 5) rfl ?_); refine box_event ?hg (N := 5) ?hd (cs := #[.int .i64 a2_0, .int .i64 a2_1]) (t := 27) ?hr ?_; (case hd => rfl); (case hg => rfl); (case hr => first | (go_simp; done) | (go_simp; rfl)); intro gb444 hg w28 hbox hb; have n0_ := Aside0.mk (blk_below (bk_ BK442.out) hb); have n1_ := Aside0.mk (blk_below (bk_ BK443.out) hb); have n2_ := Aside0.mk (below_step (bl_ HB.out) hb); have n3_ := Aside0.mk (hbox); have n4_ := Aside0.mk (szl_ hg HB.out); have n5_ := Aside0.mk (szl_ hg HB.out); have n6_ := Aside0.mk (nel_ hg BK442.out); have n7_ := Aside0.mk (ner_ hg BK442.out); have n8_ := Aside0.mk (nel_ hg BK443.out); have n9_ := Aside0.mk (ner_ hg BK443.out); clear BK442 BK443 HB; have BK442 := n0_; have BK443 := n1_; have HB := n2_; have BK444 := n3_; have GW444 := n4_; have GE444 := n5_; have NB442_444 := n6_; have NB444_442 := n7_; have NB443_444 := n8_; have NB444_443 := n9_; clear n0_ n1_ n2_ n3_ n4_ n5_ n6_ n7_ n8_ n9_ hb hbox hg) | ((with_reducible refine gate_dst (N := 6) rfl ?_); refine box_event ?hg (N := 6) ?hd (cs := #[.int .i64 0, .int .i64 0]) (t := 27) ?hr ?_; (case hd => rfl); (case hg => rfl); (case hr => first | (go_simp; done) | (go_simp; rfl)); intro gb445 hg w29 hbox hb; have n0_ := Aside0.mk (blk_below (bk_ BK442.out) hb); have n1_ := Aside0.mk (blk_below (bk_ BK443.out) hb); have n2_ := Aside0.mk (blk_below (bk_ BK444.out) hb); have n3_ := Aside0.mk (below_step (bl_ HB.out) hb); have n4_ := Aside0.mk (hbox); have n5_ := Aside0.mk (szl_ hg HB.out); have n6_ := Aside0.mk (szl_ hg HB.out); have n7_ := Aside0.mk (nel_ hg BK442.out); have n8_ := Aside0.mk (ner_ hg BK442.out); have n9_ := Aside0.mk (nel_ hg BK443.out); have n10_ := Aside0.mk (ner_ hg BK443.out); have n11_ := Aside0.mk (nel_ hg BK444.out); have n12_ := Aside0.mk (ner_ hg BK444.out); clear BK442 BK443 BK444 HB; have BK442 := n0_; have BK443 := n1_; have BK444 := n2_; have HB := n3_; have BK445 := n4_; have GW445 := n5_; have GE445 := n6_; have NB442_445 := n7_; have NB445_442 := n8_; have NB443_445 := n9_; have NB445_443 := n10_; have NB444_445 := n11_; have NB445_444 := n12_; clear n0_ n1_ n2_ n3_ n4_ n5_ n6_ n7_ n8_ n9_ n10_ n11_ n12_ hb hbox hg; have hnb30 := NB442_443.out; have hnc30 := NB443_442.out; have hnb31 := NB442_444.out; have hnc31 := NB444_442.out; have hnb32 := NB442_445.out; have hnc32 := NB445_442.out; have hcz33_0 : w29.cell? ⟨gb442, 0, none⟩ = some (.slice A0_0 l0_0.length c0_0) := (blk_cell BK442.out 0).trans rfl; have hcz33_1 : w29.cell? ⟨gb442, 1, none⟩ = some (.slice A0_1 l0_1.length c0_1) := (blk_cell BK442.out 1).trans rfl; have hcz33_2 : w29.cell? ⟨gb442, 2, none⟩ = some (.slice A0_2 l0_2.length c0_2) := (blk_cell BK442.out 2).trans rfl; have hfz33_0 := blk_frozen BK442.out 0; have hfz33_1 := blk_frozen BK442.out 1; have hfz33_2 := blk_frozen BK442.out 2; have hnb34 := NB443_444.out; have hnc34 := NB444_443.out; have hnb35 := NB443_445.out; have hnc35 := NB445_443.out; have hcz36_0 : w29.cell? ⟨gb443, 0, none⟩ = some (.int .i64 a1_0) := (blk_cell BK443.out 0).trans rfl; have hcz36_1 : w29.cell? ⟨gb443, 1, none⟩ = some (.int .i64 a1_1) := (blk_cell BK443.out 1).trans rfl; have hfz36_0 := blk_frozen BK443.out 0; have hfz36_1 := blk_frozen BK443.out 1; have hnb37 := NB444_445.out; have hnc37 := NB445_444.out; have hcz38_0 : w29.cell? ⟨gb444, 0, none⟩ = some (.int .i64 a2_0) := (blk_cell BK444.out 0).trans rfl; have hcz38_1 : w29.cell? ⟨gb444, 1, none⟩ = some (.int .i64 a2_1) := (blk_cell BK444.out 1).trans rfl; have hfz38_0 := blk_frozen BK444.out 0; have hfz38_1 := blk_frozen BK444.out 1) | ((with_reducible refine gate_callee (f := 52) rfl ?_); refine goesL_ (some 12) rfl rfl Try.func52 (by kernel_rfl) rfl #[.agg #[.slice A0_0 l0_0.length c0_0, .slice A0_1 l0_1.length c0_1, .slice A0_2 l0_2.length c0_2], .agg #[.int .i64 a1_0, .int .i64 a1_1], .agg #[.int .i64 a2_0, .int .i64 a2_1]] rfl (by (try simp only [List.map_toArray, List.map_cons, List.map_nil]); first | done | rfl | (simp only [List.length_drop, List.length_take]; rfl)) ?_; (with_reducible refine (swashplateref01_CheckBound.calls k _ _ l0_0 _ _ l0_1 _ _ l0_2 a1_0 a1_1 a2_0 a2_1 t446 _ ?side1 ?side2 ?side3 ?side4 ?side5 ?side6 A4.out).mono ?_); (case side1 => exact cr_ (Kd.C_below HR0_0.out HB.out)); (case side2 => exact HC0_0.out); (case side3 => exact cr_ (Kd.C_below HR0_1.out HB.out)); (case side4 => exact HC0_1.out); (case side5 => exact cr_ (Kd.C_below HR0_2.out HB.out)); (case side6 => exact HC0_2.out); rintro e w39 ⟨rfl, hb⟩; refine ⟨_, rfl, ?_⟩; have n0_ := Aside0.mk (blk_below (bk_ BK442.out) hb); have n1_ := Aside0.mk (blk_below (bk_ BK443.out) hb); have n2_ := Aside0.mk (blk_below (bk_ BK444.out) hb); have n3_ := Aside0.mk (blk_below (bk_ BK445.out) hb); have n4_ := Aside0.mk (below_step (bl_ HB.out) hb); clear BK442 BK443 BK444 BK445 HB; have BK442 := n0_; have BK443 := n1_; have BK444 := n2_; have BK445 := n3_; have HB := n4_; clear n0_ n1_ n2_ n3_ n4_; (try clear hb); (try clear hb2); (try clear hk); (try clear hi); have hcz40_0 : w39.cell? ⟨gb445, 0, none⟩ = some (.int .i64 0) := (blk_cell BK445.out 0).trans rfl; have hcz40_1 : w39.cell? ⟨gb445, 1, none⟩ = some (.int .i64 0) := (blk_cell BK445.out 1).trans rfl; have hfz40_0 := blk_frozen BK445.out 0; have hfz40_1 := blk_frozen BK445.out 1))
  refine bodyPost_ret (results_ct rfl _ _ gb445 27 #[.int .i64 0, .int .i64 0] (0, 0) _ rfl (by (with_reducible repeat (first | refine blk_drewN ?_ _ | refine blk_drew ?_ | refine blk_alloc ?_ _)); refine blk_put (cs := #[.int .i64 0, .int .i64 0]) ?_ 1 _ rfl; (with_reducible repeat (first | refine blk_drewN ?_ _ | refine blk_drew ?_ | refine blk_alloc ?_ _)); refine blk_put (cs := #[.int .i64 0, .int .i64 0]) ?_ 0 _ rfl; (with_reducible repeat (first | refine blk_drewN ?_ _ | refine blk_drew ?_ | refine blk_alloc ?_ _)); exact BK445.out) Try.underlying27 rfl (by kernel_rfl)) rfl ?_
  exact ⟨by first | rfl | (simp [errW_none, errW_some] <;> rfl) | (simp [*, errW_none, errW_some] <;> rfl), bl_ HB.out⟩
end Go.Proofs.Yteodlmgmmpkpoaa.PS
end
section
namespace Go.Proofs.Yteodlmgmmpkpoaa.PS
open Go.RowKit Go.Proofs.YteodlmgmmpkpoaaW.PrintWords Go.Proofs.YteodlmgmmpkpoaaW.PrintLast Go.Proofs.YteodlmgmmpkpoaaW.PrintMore
attribute [local go_sem] max2_int min2_int max_two min_two max_three min_three max_four min_four   -- for this text's walks alone
set_option linter.unusedVariables false
set_option linter.unusedSimpArgs false
mutual
def swashplateref01_Worst.l0 : Nat → List Int → List Int → Int → Int → Int → Int → Int → List Int → List Int → List (List Int) → Option (Int × Int × Int)
 | 0, _, _, _, _, _, _, _, _, _, _ => none
 | k + 1, x10, x11, x12, x13, x14, x15, x16, x470000, x470001, x470002 => if x16 < (x10.length : Int) then (swashplateref01_Worst.l1 k x10 x11 x12 x13 x14 x15 x16 0 x470000 x470001 x470002) else (some (x12, x13, 0))
def swashplateref01_Worst.l1 : Nat → List Int → List Int → Int → Int → Int → Int → Int → Int → List Int → List Int → List (List Int) → Option (Int × Int × Int)
 | 0, _, _, _, _, _, _, _, _, _, _, _ => none
 | k + 1, x10, x11, x12, x13, x14, x15, x16, x17, x470000, x470001, x470002 => if x17 < (x11.length : Int) then (if 0 ≤ x16 then (if x16 < (x10.length : Int) then (if 0 ≤ x17 then ((swashplateref01_Value.f x470000 x470001 x470002 (rd x10 x16) (rd x11 x17)).bind fun bt485 => ((swashplateref01_less.f x14 x15 bt485.1 bt485.2).bind fun t487 => (if t487 = true then (swashplateref01_Worst.l1 k x10 x11 (rd x10 x16) (rd x11 x17) bt485.1 bt485.2 x16 (wrap64 (x17 + 1)) x470000 x470001 x470002) else (swashplateref01_Worst.l1 k x10 x11 x12 x13 x14 x15 x16 (wrap64 (x17 + 1)) x470000 x470001 x470002)))) else (none)) else (none)) else (none)) else (swashplateref01_Worst.l0 k x10 x11 x12 x13 x14 x15 (wrap64 (x16 + 1)) x470000 x470001 x470002)
end
def swashplateref01_Worst.f (k : Nat) (l0_0 : List Int) (l0_1 : List Int) (l0_2 : List (List Int)) (a1_0 : Int) (a1_1 : Int) (a2_0 : Int) (a2_1 : Int) : Option (Int × Int × Int) := (swashplateref01_CheckBound.f k l0_0 l0_1 l0_2 a1_0 a1_1 a2_0 a2_1).bind fun t472 => (if t472 = 0 then ((swashplateref01_corners.f k l0_0 a1_0 a1_1).bind fun t473 => ((swashplateref01_corners.f k l0_1 a2_0 a2_1).bind fun t476 => (if 0 < (t473.length : Int) then (if 0 < (t476.length : Int) then ((swashplateref01_Value.f l0_0 l0_1 l0_2 (rd t473 0) (rd t476 0)).bind fun bt481 => (swashplateref01_Worst.l0 k t473 t476 (rd t473 0) (rd t476 0) bt481.1 bt481.2 0 l0_0 l0_1 l0_2)) else (none)) else (none)))) else (some (0, 0, t472)))
def swashplateref01_Worst.T4 : Bool × List (List Nat × List Nat) := (true, [([], []), ([0], [0]), ([], []), ([1, 2], [1, 2]), ([], []), ([4], [4]), ([], []), ([5, 6, 3], [5, 6]), ([3, 7, 0, 1, 2, 3], [3]), ([7, 8, 0, 1, 2, 3, 4, 5, 6, 7, 8], [7])])
def swashplateref01_Worst.B4 : List Nat := [0, 1, 0, 7, 0, 16, 0, 127, 255, 511]
theorem swashplateref01_Worst.tab4 : rtab .any (opsOf Try.f33 4) = swashplateref01_Worst.T4 := by kernel_rfl
theorem swashplateref01_Worst.bits4 : waitsOk swashplateref01_Worst.T4.2 swashplateref01_Worst.B4 = true := by kernel_rfl
def swashplateref01_Worst.T5 : Bool × List (List Nat × List Nat) := (true, [([], []), ([0], [0]), ([1], [1]), ([], []), ([3], [3]), ([4], [4]), ([2, 0, 1, 2], [2]), ([5, 6, 0, 1, 2, 3, 4, 5, 6], [5])])
def swashplateref01_Worst.B5 : List Nat := [0, 1, 3, 0, 8, 24, 7, 127]
theorem swashplateref01_Worst.tab5 : rtab .any (opsOf Try.f33 5) = swashplateref01_Worst.T5 := by kernel_rfl
theorem swashplateref01_Worst.bits5 : waitsOk swashplateref01_Worst.T5.2 swashplateref01_Worst.B5 = true := by kernel_rfl
def swashplateref01_Worst.T13 : Bool × List (List Nat × List Nat) := (true, [([], []), ([], []), ([], []), ([1, 2], [1, 2]), ([3], [3]), ([], []), ([], []), ([5, 6], [5, 6]), ([7], [7]), ([0, 4, 8], [0, 4, 8]), ([9], [9]), ([10], [10]), ([10], [10]), ([11, 9, 0, 1, 2, 3, 4, 5, 6, 7, 8, 9, 10, 11], [11]), ([12, 13, 0, 1, 2, 3, 4, 5, 6, 7, 8, 9, 10, 11, 12, 13], [12])])
def swashplateref01_Worst.B13 : List Nat := [0, 0, 0, 6, 14, 0, 0, 96, 224, 511, 1023, 2047, 2047, 4095, 16383]
theorem swashplateref01_Worst.tab13 : rtab .any (opsOf Try.f33 13) = swashplateref01_Worst.T13 := by kernel_rfl
theorem swashplateref01_Worst.bits13 : waitsOk swashplateref01_Worst.T13.2 swashplateref01_Worst.B13 = true := by kernel_rfl
set_option maxHeartbeats 8000000 in
set_option maxRecDepth 100000 in
theorem swashplateref01_Worst.calls (k : Nat) (A0_0 : Option Addr) (c0_0 : Nat) (l0_0 : List Int) (A0_1 : Option Addr) (c0_1 : Nat) (l0_1 : List Int) (A0_2 : Option Addr) (c0_2 : Nat) (l0_2 : List (List Int)) (a1_0 : Int) (a1_1 : Int) (a2_0 : Int) (a2_1 : Int) (r1 : Int) (r2 : Int) (r3 : Int) (w : World) (hr0_0 : Kd.C (Kd.int .i64) w A0_0 l0_0.length l0_0) (hc0_0 : l0_0.length ≤ c0_0) (hr0_1 : Kd.C (Kd.int .i64) w A0_1 l0_1.length l0_1) (hc0_1 : l0_1.length ≤ c0_1) (hr0_2 : Kd.C (Kd.slice 3 (Kd.int .i64)) w A0_2 l0_2.length l0_2) (hc0_2 : l0_2.length ≤ c0_2) (h : swashplateref01_Worst.f k l0_0 l0_1 l0_2 a1_0 a1_1 a2_0 a2_1 = some (r1, r2, r3)) :
  Calls Try.prog 33 #[.agg #[.slice A0_0 l0_0.length c0_0, .slice A0_1 l0_1.length c0_1, .slice A0_2 l0_2.length c0_2], .agg #[.int .i64 a1_0, .int .i64 a1_1], .agg #[.int .i64 a2_0, .int .i64 a2_1]] w fun e w' => e = .returned (.tuple #[.int .i64 r1, .int .i64 r2, .int .i64 r3]) ∧ Below w.heap.size w w' := by
 have hu25 := Try.underlying25
 have hu27 := Try.underlying27
 have HR0_0 := Aside0.mk hr0_0
 have HC0_0 := Aside0.mk hc0_0
 clear hr0_0 hc0_0
 have HR0_1 := Aside0.mk hr0_1
 have HC0_1 := Aside0.mk hc0_1
 clear hr0_1 hc0_1
 have HR0_2 := Aside0.mk hr0_2
 have HC0_2 := Aside0.mk hc0_2
 clear hr0_2 hc0_2
 have HB := Aside0.mk (Below.refl w.heap.size w)
 have H : ((swashplateref01_CheckBound.f k l0_0 l0_1 l0_2 a1_0 a1_1 a2_0 a2_1).bind fun t472 => (if t472 = 0 then ((swashplateref01_corners.f k l0_0 a1_0 a1_1).bind fun t473 => ((swashplateref01_corners.f k l0_1 a2_0 a2_1).bind fun t476 => (if 0 < (t473.length : Int) then (if 0 < (t476.length : Int) then ((swashplateref01_Value.f l0_0 l0_1 l0_2 (rd t473 0) (rd t476 0)).bind fun bt481 => (swashplateref01_Worst.l0 k t473 t476 (rd t473 0) (rd t476 0) bt481.1 bt481.2 0 l0_0 l0_1 l0_2)) else (none)) else (none)))) else (some (0, 0, t472)))) = some (r1, r2, r3) := h
 clear h
 replace H := Option.bind_eq_some_iff.mp H
 obtain ⟨t472, A40, H⟩ := H
 replace H : (if t472 = 0 then ((swashplateref01_corners.f k l0_0 a1_0 a1_1).bind fun t473 => ((swashplateref01_corners.f k l0_1 a2_0 a2_1).bind fun t476 => (if 0 < (t473.length : Int) then (if 0 < (t476.length : Int) then ((swashplateref01_Value.f l0_0 l0_1 l0_2 (rd t473 0) (rd t476 0)).bind fun bt481 => (swashplateref01_Worst.l0 k t473 t476 (rd t473 0) (rd t476 0) bt481.1 bt481.2 0 l0_0 l0_1 l0_2)) else (none)) else (none)))) else (some (0, 0, t472))) = some (r1, r2, r3) := H
 have A4 := Aside0.mk A40
 clear A40
 by_cases c5 : t472 = 0
 ·
  rw [if_pos c5] at H
  have c5b0 : (t472 == 0) = true := beq_iff_eq.mpr c5
  have c5b1 : (t472 != 0) = false := bne_eq_false_iff_eq.mpr c5
  clear c5
  replace H := Option.bind_eq_some_iff.mp H
  obtain ⟨t473, A60, H⟩ := H
  replace H : ((swashplateref01_corners.f k l0_1 a2_0 a2_1).bind fun t476 => (if 0 < (t473.length : Int) then (if 0 < (t476.length : Int) then ((swashplateref01_Value.f l0_0 l0_1 l0_2 (rd t473 0) (rd t476 0)).bind fun bt481 => (swashplateref01_Worst.l0 k t473 t476 (rd t473 0) (rd t476 0) bt481.1 bt481.2 0 l0_0 l0_1 l0_2)) else (none)) else (none))) = some (r1, r2, r3) := H
  have A6 := Aside0.mk A60
  clear A60
  replace H := Option.bind_eq_some_iff.mp H
  obtain ⟨t476, A70, H⟩ := H
  replace H : (if 0 < (t473.length : Int) then (if 0 < (t476.length : Int) then ((swashplateref01_Value.f l0_0 l0_1 l0_2 (rd t473 0) (rd t476 0)).bind fun bt481 => (swashplateref01_Worst.l0 k t473 t476 (rd t473 0) (rd t476 0) bt481.1 bt481.2 0 l0_0 l0_1 l0_2)) else (none)) else (none)) = some (r1, r2, r3) := H
  have A7 := Aside0.mk A70
  clear A70
  by_cases c8 : 0 < (t473.length : Int)
  ·
   rw [if_pos c8] at H
   have c8b0 : decide (0 < (t473.length : Int)) = true := decide_eq_true c8
   have c8b1 : decide (0 < t473.length) = true := decide_eq_true (by omega)
   clear c8
   by_cases c9 : 0 < (t476.length : Int)
   ·
    rw [if_pos c9] at H
    have c9b0 : decide (0 < (t476.length : Int)) = true := decide_eq_true c9
    have c9b1 : decide (0 < t476.length) = true := decide_eq_true (by omega)
    clear c9
    replace H := Option.bind_eq_some_iff.mp H
    obtain ⟨⟨t481, t482⟩, A100, H⟩ := H
    replace H : (swashplateref01_Worst.l0 k t473 t476 (rd t473 0) (rd t476 0) t481 t482 0 l0_0 l0_1 l0_2) = some (r1, r2, r3) := H
    have A10 := Aside0.mk A100
    clear A100
    have H' := Aside0.mk H
    clear H
    go_enter Try.func33, Try.ntmps33
    try go_wp2_with (first | ((with_reducible refine gate_dst (N := 3) rfl ?_); refine box_event ?hg (N := 3) ?hd (cs := #[.slice A0_0 l0_0.length c0_0, .slice A0_1 l0_1.length c0_1, .slice A0_2 l0_2.length c0_2]) (t := 25) ?hr ?_; (case hd => rfl); (case hg => rfl); (case hr => first | (go_simp; done) | (go_simp; rfl)); intro gb469 hg w11 hbox hb; have n0_ := Aside0.mk (below_step (bl_ HB.out) hb); have n1_ := Aside0.mk (hbox); have n2_ := Aside0.mk (szl_ hg HB.out); have n3_ := Aside0.mk (szl_ hg HB.out); clear HB; have HB := n0_; have BK469 := n1_; have GW469 := n2_; have GE469 := n3_; clear n0_ n1_ n2_ n3_ hb hbox hg) | ((with_reducible refine gate_dst (N := 4) rfl ?_); refine box_event ?hg (N := 4) ?hd (cs := #[.int .i64 a1_0, .int .i64 a1_1]) (t := 27) ?hr ?_; (case hd => rfl); (case hg => rfl); (case hr => first | (go_simp; done) | (go_simp; rfl)); intro gb470 hg w12 hbox hb; have n0_ := Aside0.mk (blk_below (bk_ BK469.out) hb); have n1_ := Aside0.mk (below_step (bl_ HB.out) hb); have n2_ := Aside0.mk (hbox); have n3_ := Aside0.mk (szl_ hg HB.out); have n4_ := Aside0.mk (szl_ hg HB.out); have n5_ := Aside0.mk (nel_ hg BK469.out); have n6_ := Aside0.mk (ner_ hg BK469.out); clear BK469 HB; have BK469 := n0_; have HB := n1_; have BK470 := n2_; have GW470 := n3_; have GE470 := n4_; have NB469_470 := n5_; have NB470_469 := n6_; clear n0_ n1_ n2_ n3_ n4_ n5_ n6_ hb hbox hg) | ((with_reducible refine gate_dst (N := 5) rfl ?_); refine box_event ?hg (N := 5) ?hd (cs := #[.int .i64 a2_0, .int .i64 a2_1]) (t := 27) ?hr ?_; (case hd => rfl); (case hg => rfl); (case hr => first | (go_simp; done) | (go_simp; rfl)); intro gb471 hg w13 hbox hb; have n0_ := Aside0.mk (blk_below (bk_ BK469.out) hb); have n1_ := Aside0.mk (blk_below (bk_ BK470.out) hb); have n2_ := Aside0.mk (below_step (bl_ HB.out) hb); have n3_ := Aside0.mk (hbox); have n4_ := Aside0.mk (szl_ hg HB.out); have n5_ := Aside0.mk (szl_ hg HB.out); have n6_ := Aside0.mk (nel_ hg BK469.out); have n7_ := Aside0.mk (ner_ hg BK469.out); have n8_ := Aside0.mk (nel_ hg BK470.out); have n9_ := Aside0.mk (ner_ hg BK470.out); clear BK469 BK470 HB; have BK469 := n0_; have BK470 := n1_; have HB := n2_; have BK471 := n3_; have GW471 := n4_; have GE471 := n5_; have NB469_471 := n6_; have NB471_469 := n7_; have NB470_471 := n8_; have NB471_470 := n9_; clear n0_ n1_ n2_ n3_ n4_ n5_ n6_ n7_ n8_ n9_ hb hbox hg; have hnb14 := NB469_470.out; have hnc14 := NB470_469.out; have hnb15 := NB469_471.out; have hnc15 := NB471_469.out; have hcz16_0 : w13.cell? ⟨gb469, 0, none⟩ = some (.slice A0_0 l0_0.length c0_0) := (blk_cell BK469.out 0).trans rfl; have hcz16_1 : w13.cell? ⟨gb469, 1, none⟩ = some (.slice A0_1 l0_1.length c0_1) := (blk_cell BK469.out 1).trans rfl; have hcz16_2 : w13.cell? ⟨gb469, 2, none⟩ = some (.slice A0_2 l0_2.length c0_2) := (blk_cell BK469.out 2).trans rfl; have hfz16_0 := blk_frozen BK469.out 0; have hfz16_1 := blk_frozen BK469.out 1; have hfz16_2 := blk_frozen BK469.out 2; have hnb17 := NB470_471.out; have hnc17 := NB471_470.out; have hcz18_0 : w13.cell? ⟨gb470, 0, none⟩ = some (.int .i64 a1_0) := (blk_cell BK470.out 0).trans rfl; have hcz18_1 : w13.cell? ⟨gb470, 1, none⟩ = some (.int .i64 a1_1) := (blk_cell BK470.out 1).trans rfl; have hfz18_0 := blk_frozen BK470.out 0; have hfz18_1 := blk_frozen BK470.out 1; have hcz19_0 : w13.cell? ⟨gb471, 0, none⟩ = some (.int .i64 a2_0) := (blk_cell BK471.out 0).trans rfl; have hcz19_1 : w13.cell? ⟨gb471, 1, none⟩ = some (.int .i64 a2_1) := (blk_cell BK471.out 1).trans rfl; have hfz19_0 := blk_frozen BK471.out 0; have hfz19_1 := blk_frozen BK471.out 1) | ((with_reducible refine gate_callee (f := 52) rfl ?_); refine goesL_ (some 23) rfl rfl Try.func52 (by kernel_rfl) rfl #[.agg #[.slice A0_0 l0_0.length c0_0, .slice A0_1 l0_1.length c0_1, .slice A0_2 l0_2.length c0_2], .agg #[.int .i64 a1_0, .int .i64 a1_1], .agg #[.int .i64 a2_0, .int .i64 a2_1]] rfl (by (try simp only [List.map_toArray, List.map_cons, List.map_nil]); first | done | rfl | (simp only [List.length_drop, List.length_take]; rfl)) ?_; (with_reducible refine (swashplateref01_CheckBound.calls k _ _ l0_0 _ _ l0_1 _ _ l0_2 a1_0 a1_1 a2_0 a2_1 t472 _ ?side1 ?side2 ?side3 ?side4 ?side5 ?side6 A4.out).mono ?_); (case side1 => exact cr_ (Kd.C_below HR0_0.out HB.out)); (case side2 => exact HC0_0.out); (case side3 => exact cr_ (Kd.C_below HR0_1.out HB.out)); (case side4 => exact HC0_1.out); (case side5 => exact cr_ (Kd.C_below HR0_2.out HB.out)); (case side6 => exact HC0_2.out); rintro e w20 ⟨rfl, hb⟩; refine ⟨_, rfl, ?_⟩; have n0_ := Aside0.mk (blk_below (bk_ BK469.out) hb); have n1_ := Aside0.mk (blk_below (bk_ BK470.out) hb); have n2_ := Aside0.mk (blk_below (bk_ BK471.out) hb); have n3_ := Aside0.mk (below_step (bl_ HB.out) hb); clear BK469 BK470 BK471 HB; have BK469 := n0_; have BK470 := n1_; have BK471 := n2_; have HB := n3_; clear n0_ n1_ n2_ n3_; (try clear hb); (try clear hb2); (try clear hk); (try clear hi)))
    have n0_ := Aside0.mk (blk_drew BK469.out)
    have n1_ := Aside0.mk (blk_drew BK470.out)
    have n2_ := Aside0.mk (blk_drew BK471.out)
    have n3_ := Aside0.mk (below_drew1 HB.out)
    clear BK469 BK470 BK471 HB
    have BK469 := n0_
    have BK470 := n1_
    have BK471 := n2_
    have HB := n3_
    clear n0_ n1_ n2_ n3_
    refine start_ (n := 10) (S := fun w' => w'.cell? ⟨gb469, 0, none⟩ = some (.slice A0_0 l0_0.length c0_0) ∧ w'.cell? ⟨gb469, 1, none⟩ = some (.slice A0_1 l0_1.length c0_1) ∧ w'.cell? ⟨gb469, 2, none⟩ = some (.slice A0_2 l0_2.length c0_2) ∧ w'.cell? ⟨gb470, 0, none⟩ = some (.int .i64 a1_0) ∧ w'.cell? ⟨gb470, 1, none⟩ = some (.int .i64 a1_1) ∧ w'.cell? ⟨gb471, 0, none⟩ = some (.int .i64 a2_0) ∧ w'.cell? ⟨gb471, 1, none⟩ = some (.int .i64 a2_1)) (ds := []) #[false, false, false, false, false, false, false, false, false, false] (by kernel_rfl) rfl rfl ⟨(blk_cell BK469.out 0).trans rfl, (blk_cell BK469.out 1).trans rfl, (blk_cell BK469.out 2).trans rfl, (blk_cell BK470.out 0).trans rfl, (blk_cell BK470.out 1).trans rfl, (blk_cell BK471.out 0).trans rfl, (blk_cell BK471.out 1).trans rfl⟩ (fun hHeld => ?_); refine with_tabW swashplateref01_Worst.tab4 swashplateref01_Worst.bits4 (fun HT_ HW_ => ?_)
    generalize w20.drew = w21 at BK469 BK470 BK471 HB hHeld ⊢
    refine pure_ (i := 0) (N := some 27) (v := ?_) (a' := ?_) #[true, false, false, false, false, false, false, false, false, false] rfl rfl (any_of HT_.out (by kernel_rfl)) (fun _ _ _ h => h) (Or.inl ⟨by rfl, ?_⟩) ?_ ?_
    rotate_left
    ·
     intro w'
     go_simp
     with_reducible rfl
    rotate_left
    ·
     simp only [Act.put, List.setIfInBounds_toArray, List.set_cons_zero, List.set_cons_succ, i64_w, i32_w]
     rfl
    refine pure_ (i := 4) (N := some 31) (v := ?_) (a' := ?_) #[true, false, false, false, true, false, false, false, false, false] rfl rfl (any_of HT_.out (by kernel_rfl)) (fun _ _ _ h => h) (Or.inl ⟨by rfl, ?_⟩) ?_ ?_
    rotate_left
    ·
     intro w'
     go_simp
     with_reducible rfl
    rotate_left
    ·
     simp only [Act.put, List.setIfInBounds_toArray, List.set_cons_zero, List.set_cons_succ, i64_w, i32_w]
     rfl
    refine take_ (i := 1) (N := some 28) (v := ?_) (a' := ?_) #[true, true, false, false, true, false, false, false, false, false] rfl rfl (take_ofW HT_.out HW_.out (by kernel_rfl)) (fun _ _ _ h => h) (Or.inl ⟨by rfl, ?_⟩) hHeld ?_ ?_
    rotate_left
    ·
     rintro w' ⟨s0, s1, s2, s3, s4, s5, s6⟩
     go_simp
     with_reducible rfl
    rotate_left
    ·
     simp only [Act.put, List.setIfInBounds_toArray, List.set_cons_zero, List.set_cons_succ, i64_w, i32_w]
     rfl
    refine take_ (i := 2) (N := some 29) (v := ?_) (a' := ?_) #[true, true, true, false, true, false, false, false, false, false] rfl rfl (take_ofW HT_.out HW_.out (by kernel_rfl)) (fun _ _ _ h => h) (Or.inl ⟨by rfl, ?_⟩) hHeld ?_ ?_
    rotate_left
    ·
     rintro w' ⟨s0, s1, s2, s3, s4, s5, s6⟩
     go_simp
     with_reducible rfl
    rotate_left
    ·
     simp only [Act.put, List.setIfInBounds_toArray, List.set_cons_zero, List.set_cons_succ, i64_w, i32_w]
     rfl
    refine take_ (i := 5) (N := some 32) (v := ?_) (a' := ?_) #[true, true, true, false, true, true, false, false, false, false] rfl rfl (take_ofW HT_.out HW_.out (by kernel_rfl)) (fun _ _ _ h => h) (Or.inl ⟨by rfl, ?_⟩) hHeld ?_ ?_
    rotate_left
    ·
     rintro w' ⟨s0, s1, s2, s3, s4, s5, s6⟩
     go_simp
     with_reducible rfl
    rotate_left
    ·
     simp only [Act.put, List.setIfInBounds_toArray, List.set_cons_zero, List.set_cons_succ, i64_w, i32_w]
     rfl
    refine take_ (i := 6) (N := some 33) (v := ?_) (a' := ?_) #[true, true, true, false, true, true, true, false, false, false] rfl rfl (take_ofW HT_.out HW_.out (by kernel_rfl)) (fun _ _ _ h => h) (Or.inl ⟨by rfl, ?_⟩) hHeld ?_ ?_
    rotate_left
    ·
     rintro w' ⟨s0, s1, s2, s3, s4, s5, s6⟩
     go_simp
     with_reducible rfl
    rotate_left
    ·
     simp only [Act.put, List.setIfInBounds_toArray, List.set_cons_zero, List.set_cons_succ, i64_w, i32_w]
     rfl
    refine one_ (i := 3) (N := some 30) #[true, true, true, true, true, true, true, false, false, false] rfl rfl (one_of HT_.out (by kernel_rfl)) (by decide) (fun K hK => ?_)
    refine goes_ Try.func101 (by kernel_rfl) rfl #[.slice A0_0 l0_0.length c0_0, .agg #[.int .i64 a1_0, .int .i64 a1_1]] (by rfl) rfl rfl (by (try simp only [List.map_toArray, List.map_cons, List.map_nil]); first | done | rfl | (simp only [List.length_drop, List.length_take]; rfl)) ?_
    with_reducible refine (swashplateref01_corners.calls k _ _ l0_0 a1_0 a1_1 t473 _ ?side1 ?side2 A6.out).mono ?_
    (case side1 => exact cr_ (Kd.C_below HR0_0.out HB.out))
    (case side2 => exact HC0_0.out)
    rintro e w22 ⟨v474, rfl, ho0, hb⟩
    refine ⟨_, rfl, ?_⟩
    have n0_ := Aside0.mk (Kd.R_lower ho0 (below_size (bl_ HB.out)))
    have n1_ := Aside0.mk (blk_below (bk_ BK469.out) hb)
    have n2_ := Aside0.mk (blk_below (bk_ BK470.out) hb)
    have n3_ := Aside0.mk (blk_below (bk_ BK471.out) hb)
    have n4_ := Aside0.mk (below_step (bl_ HB.out) hb)
    clear BK469 BK470 BK471 HB
    have HO475 := n0_
    have BK469 := n1_
    have BK470 := n2_
    have BK471 := n3_
    have HB := n4_
    clear n0_ n1_ n2_ n3_ n4_
    (try clear hb)
    (try clear hb2)
    (try clear hk)
    (try clear hi)
    (try clear ho0)
    refine hK.out _ _ ⟨(blk_cell BK469.out 0).trans rfl, (blk_cell BK469.out 1).trans rfl, (blk_cell BK469.out 2).trans rfl, (blk_cell BK470.out 0).trans rfl, (blk_cell BK470.out 1).trans rfl, (blk_cell BK471.out 0).trans rfl, (blk_cell BK471.out 1).trans rfl⟩ (fun hHeld => ?_)
    clear hK K
    refine norm_ (a' := ?_) ?_ ?_
    rotate_left
    ·
     show Act.put _ (some 30) _ = _
     simp only [Act.put, List.setIfInBounds_toArray, List.set_cons_zero, List.set_cons_succ, i64_w, i32_w]
     rfl
    refine one_ (i := 7) (N := some 34) #[true, true, true, true, true, true, true, true, false, false] rfl rfl (one_of HT_.out (by kernel_rfl)) (by decide) (fun K hK => ?_)
    refine goes_ Try.func101 (by kernel_rfl) rfl #[.slice A0_1 l0_1.length c0_1, .agg #[.int .i64 a2_0, .int .i64 a2_1]] (by rfl) rfl rfl (by (try simp only [List.map_toArray, List.map_cons, List.map_nil]); first | done | rfl | (simp only [List.length_drop, List.length_take]; rfl)) ?_
    with_reducible refine (swashplateref01_corners.calls k _ _ l0_1 a2_0 a2_1 t476 _ ?side1 ?side2 A7.out).mono ?_
    (case side1 => exact cr_ (Kd.C_below HR0_1.out HB.out))
    (case side2 => exact HC0_1.out)
    rintro e w23 ⟨v477, rfl, ho0, hb⟩
    refine ⟨_, rfl, ?_⟩
    have n0_ := Aside0.mk (Kd.R_elder' (by (with_reducible repeat (first | apply Kd.R_alloc | apply Kd.R_drewN | apply Kd.R_drew)); exact HO475.out) (Kd.R_base ho0) hb)
    have n1_ := Aside0.mk (Kd.R_lower (Kd.R_new' ho0 (Kd.R_lt (by (with_reducible repeat (first | apply Kd.R_alloc | apply Kd.R_drewN | apply Kd.R_drew)); exact HO475.out))) (below_size (bl_ HB.out)))
    have n2_ := Aside0.mk (blk_below (bk_ BK469.out) hb)
    have n3_ := Aside0.mk (blk_below (bk_ BK470.out) hb)
    have n4_ := Aside0.mk (blk_below (bk_ BK471.out) hb)
    have n5_ := Aside0.mk (below_step (bl_ HB.out) hb)
    clear HO475 BK469 BK470 BK471 HB
    have HO475 := n0_
    have HO478 := n1_
    have BK469 := n2_
    have BK470 := n3_
    have BK471 := n4_
    have HB := n5_
    clear n0_ n1_ n2_ n3_ n4_ n5_
    (try clear hb)
    (try clear hb2)
    (try clear hk)
    (try clear hi)
    (try clear ho0)
    refine hK.out _ _ ⟨(blk_cell BK469.out 0).trans rfl, (blk_cell BK469.out 1).trans rfl, (blk_cell BK469.out 2).trans rfl, (blk_cell BK470.out 0).trans rfl, (blk_cell BK470.out 1).trans rfl, (blk_cell BK471.out 0).trans rfl, (blk_cell BK471.out 1).trans rfl⟩ (fun hHeld => ?_)
    clear hK K
    refine norm_ (a' := ?_) ?_ ?_
    rotate_left
    ·
     show Act.put _ (some 34) _ = _
     simp only [Act.put, List.setIfInBounds_toArray, List.set_cons_zero, List.set_cons_succ, i64_w, i32_w]
     rfl
    refine pure_ (i := 8) (N := some 10) (v := ?_) (a' := ?_) #[true, true, true, true, true, true, true, true, true, false] rfl rfl (any_of HT_.out (by kernel_rfl)) (fun _ _ _ h => h) (Or.inl ⟨by rfl, ?_⟩) ?_ ?_
    rotate_left
    ·
     intro w'
     go_simp
     with_reducible rfl
    rotate_left
    ·
     simp only [Act.put, List.setIfInBounds_toArray, List.set_cons_zero, List.set_cons_succ, i64_w, i32_w]
     rfl
    refine pure_ (i := 9) (N := some 11) (v := ?_) (a' := ?_) #[true, true, true, true, true, true, true, true, true, true] rfl rfl (any_of HT_.out (by kernel_rfl)) (fun _ _ _ h => h) (Or.inl ⟨by rfl, ?_⟩) ?_ ?_
    rotate_left
    ·
     intro w'
     go_simp
     with_reducible rfl
    rotate_left
    ·
     simp only [Act.put, List.setIfInBounds_toArray, List.set_cons_zero, List.set_cons_succ, i64_w, i32_w]
     rfl
    refine done_ (done_of HT_.out (by kernel_rfl)) ?_
    try go_wp2
    have n0_ := Aside0.mk (Kd.R_drew HO475.out)
    have n1_ := Aside0.mk (Kd.R_drew HO478.out)
    have n2_ := Aside0.mk (blk_drew BK469.out)
    have n3_ := Aside0.mk (blk_drew BK470.out)
    have n4_ := Aside0.mk (blk_drew BK471.out)
    have n5_ := Aside0.mk (below_drew1 HB.out)
    clear HO475 HO478 BK469 BK470 BK471 HB
    have HO475 := n0_
    have HO478 := n1_
    have BK469 := n2_
    have BK470 := n3_
    have BK471 := n4_
    have HB := n5_
    clear n0_ n1_ n2_ n3_ n4_ n5_
    obtain ⟨Ao25, co25, eo25⟩ := Kd.R_slice HO475.out
    (first | subst eo25 | (injection eo25 with f1_ f2_ f3_; have f4_ := f1_.symm; have f5_ := f3_.symm; clear f1_ f2_ f3_; subst f4_; subst f5_))
    have p479 : 0 ≤ (0 : Int) := (by omega)
    have q479 : 0 < (t473.length : Int) := of_decide_eq_true (by first | (with_reducible assumption) | assumption)
    obtain ⟨ad479, e479, hx479_0⟩ := Kd.at_int (Kd.R_reads' HO475.out).2.2 0 p479 q479
    cases e479
    have qi479 : (0 < t473.length) = True := eq_true (by omega)
    (try rw [show ((0 : Int)).toNat = 0 from rfl] at hx479_0)
    (try rw [Addr.add_zero'] at hx479_0)
    replace p479 := eq_true p479
    replace q479 := eq_true q479
    obtain ⟨Ao26, co26, eo26⟩ := Kd.R_slice HO478.out
    (first | subst eo26 | (injection eo26 with f1_ f2_ f3_; have f4_ := f1_.symm; have f5_ := f3_.symm; clear f1_ f2_ f3_; subst f4_; subst f5_))
    have p480 : 0 ≤ (0 : Int) := (by omega)
    have q480 : 0 < (t476.length : Int) := of_decide_eq_true (by first | (with_reducible assumption) | assumption)
    obtain ⟨ad480, e480, hx480_0⟩ := Kd.at_int (Kd.R_reads' HO478.out).2.2 0 p480 q480
    cases e480
    have qi480 : (0 < t476.length) = True := eq_true (by omega)
    (try rw [show ((0 : Int)).toNat = 0 from rfl] at hx480_0)
    (try rw [Addr.add_zero'] at hx480_0)
    replace p480 := eq_true p480
    replace q480 := eq_true q480
    refine start_ (n := 8) (S := fun w' => w'.cell? ad479 = some (.int .i64 (rd t473 0)) ∧ w'.cell? ad480 = some (.int .i64 (rd t476 0))) (ds := []) #[false, false, false, false, false, false, false, false] (by kernel_rfl) rfl rfl ⟨hx479_0, hx480_0⟩ (fun hHeld => ?_); refine with_tabW swashplateref01_Worst.tab5 swashplateref01_Worst.bits5 (fun HT_ HW_ => ?_)
    generalize w23.drew = w24 at HO475 HO478 BK469 BK470 BK471 HB hx479_0 hx480_0 hHeld ⊢
    refine pure_ (i := 0) (N := some 35) (v := ?_) (a' := ?_) #[true, false, false, false, false, false, false, false] rfl rfl (any_of HT_.out (by kernel_rfl)) (fun _ _ _ h => h) (Or.inl ⟨by rfl, ?_⟩) ?_ ?_
    rotate_left
    ·
     intro w'
     go_simp
     with_reducible rfl
    rotate_left
    ·
     simp only [Act.put, List.setIfInBounds_toArray, List.set_cons_zero, List.set_cons_succ, i64_w, i32_w]
     rfl
    refine pure_ (i := 1) (N := some 36) (v := ?_) (a' := ?_) #[true, true, false, false, false, false, false, false] rfl rfl (any_of HT_.out (by kernel_rfl)) (fun _ _ _ h => h) (Or.inl ⟨by rfl, ?_⟩) ?_ ?_
    rotate_left
    ·
     intro w'
     go_simp
     with_reducible rfl
    rotate_left
    ·
     simp only [Act.put, List.setIfInBounds_toArray, List.set_cons_zero, List.set_cons_succ, i64_w, i32_w]
     rfl
    refine pure_ (i := 3) (N := some 38) (v := ?_) (a' := ?_) #[true, true, false, true, false, false, false, false] rfl rfl (any_of HT_.out (by kernel_rfl)) (fun _ _ _ h => h) (Or.inl ⟨by rfl, ?_⟩) ?_ ?_
    rotate_left
    ·
     intro w'
     go_simp
     with_reducible rfl
    rotate_left
    ·
     simp only [Act.put, List.setIfInBounds_toArray, List.set_cons_zero, List.set_cons_succ, i64_w, i32_w]
     rfl
    refine pure_ (i := 4) (N := some 39) (v := ?_) (a' := ?_) #[true, true, false, true, true, false, false, false] rfl rfl (any_of HT_.out (by kernel_rfl)) (fun _ _ _ h => h) (Or.inl ⟨by rfl, ?_⟩) ?_ ?_
    rotate_left
    ·
     intro w'
     go_simp
     with_reducible rfl
    rotate_left
    ·
     simp only [Act.put, List.setIfInBounds_toArray, List.set_cons_zero, List.set_cons_succ, i64_w, i32_w]
     rfl
    refine take_ (i := 2) (N := some 37) (v := ?_) (a' := ?_) #[true, true, true, true, true, false, false, false] rfl rfl (take_ofW HT_.out HW_.out (by kernel_rfl)) (fun _ _ _ h => h) (Or.inl ⟨by rfl, ?_⟩) hHeld ?_ ?_
    rotate_left
    ·
     rintro w' ⟨s0, s1⟩
     go_simp
     with_reducible rfl
    rotate_left
    ·
     simp only [Act.put, List.setIfInBounds_toArray, List.set_cons_zero, List.set_cons_succ, i64_w, i32_w]
     rfl
    refine pure_ (i := 6) (N := some 12) (v := ?_) (a' := ?_) #[true, true, true, true, true, false, true, false] rfl rfl (any_of HT_.out (by kernel_rfl)) (fun _ _ _ h => h) (Or.inl ⟨by rfl, ?_⟩) ?_ ?_
    rotate_left
    ·
     intro w'
     go_simp
     with_reducible rfl
    rotate_left
    ·
     simp only [Act.put, List.setIfInBounds_toArray, List.set_cons_zero, List.set_cons_succ, i64_w, i32_w]
     rfl
    refine take_ (i := 5) (N := some 40) (v := ?_) (a' := ?_) #[true, true, true, true, true, true, true, false] rfl rfl (take_ofW HT_.out HW_.out (by kernel_rfl)) (fun _ _ _ h => h) (Or.inl ⟨by rfl, ?_⟩) hHeld ?_ ?_
    rotate_left
    ·
     rintro w' ⟨s0, s1⟩
     go_simp
     with_reducible rfl
    rotate_left
    ·
     simp only [Act.put, List.setIfInBounds_toArray, List.set_cons_zero, List.set_cons_succ, i64_w, i32_w]
     rfl
    refine pure_ (i := 7) (N := some 13) (v := ?_) (a' := ?_) #[true, true, true, true, true, true, true, true] rfl rfl (any_of HT_.out (by kernel_rfl)) (fun _ _ _ h => h) (Or.inl ⟨by rfl, ?_⟩) ?_ ?_
    rotate_left
    ·
     intro w'
     go_simp
     with_reducible rfl
    rotate_left
    ·
     simp only [Act.put, List.setIfInBounds_toArray, List.set_cons_zero, List.set_cons_succ, i64_w, i32_w]
     rfl
    refine done_ (done_of HT_.out (by kernel_rfl)) ?_
    have hcz27_0 : w24.cell? ⟨gb469, 0, none⟩ = some (.slice A0_0 l0_0.length c0_0) := (blk_cell BK469.out 0).trans rfl
    have hcz27_1 : w24.cell? ⟨gb469, 1, none⟩ = some (.slice A0_1 l0_1.length c0_1) := (blk_cell BK469.out 1).trans rfl
    have hcz27_2 : w24.cell? ⟨gb469, 2, none⟩ = some (.slice A0_2 l0_2.length c0_2) := (blk_cell BK469.out 2).trans rfl
    have hfz27_0 := blk_frozen BK469.out 0
    have hfz27_1 := blk_frozen BK469.out 1
    have hfz27_2 := blk_frozen BK469.out 2
    try go_wp2_with (first | ((with_reducible refine gate_callee (f := 102) rfl ?_); refine goesL_ (some 45) rfl rfl Try.func102 (by kernel_rfl) rfl #[.agg #[.slice A0_0 l0_0.length c0_0, .slice A0_1 l0_1.length c0_1, .slice A0_2 l0_2.length c0_2], .int .i64 (rd t473 0), .int .i64 (rd t476 0)] rfl (by (try simp only [List.map_toArray, List.map_cons, List.map_nil]); first | done | rfl | (simp only [List.length_drop, List.length_take]; rfl)) ?_; (with_reducible refine (swashplateref01_Value.calls _ _ l0_0 _ _ l0_1 _ _ l0_2 (rd t473 0) (rd t476 0) t481 t482 _ ?side1 ?side2 ?side3 ?side4 ?side5 ?side6 A10.out).mono ?_); (case side1 => exact cr_ (Kd.C_below HR0_0.out HB.out)); (case side2 => exact HC0_0.out); (case side3 => exact cr_ (Kd.C_below HR0_1.out HB.out)); (case side4 => exact HC0_1.out); (case side5 => exact cr_ (Kd.C_below HR0_2.out HB.out)); (case side6 => exact HC0_2.out); rintro e w28 ⟨rfl, hb⟩; refine ⟨_, rfl, ?_⟩; have n0_ := Aside0.mk (Kd.R_below (by (with_reducible repeat (first | apply Kd.R_alloc | apply Kd.R_drewN | apply Kd.R_drew)); exact HO475.out) hb); have n1_ := Aside0.mk (Kd.R_below (by (with_reducible repeat (first | apply Kd.R_alloc | apply Kd.R_drewN | apply Kd.R_drew)); exact HO478.out) hb); have n2_ := Aside0.mk (blk_below (bk_ BK469.out) hb); have n3_ := Aside0.mk (blk_below (bk_ BK470.out) hb); have n4_ := Aside0.mk (blk_below (bk_ BK471.out) hb); have n5_ := Aside0.mk (below_step (bl_ HB.out) hb); clear HO475 HO478 BK469 BK470 BK471 HB; have HO475 := n0_; have HO478 := n1_; have BK469 := n2_; have BK470 := n3_; have BK471 := n4_; have HB := n5_; clear n0_ n1_ n2_ n3_ n4_ n5_; (try clear hb); (try clear hb2); (try clear hk); (try clear hi)))
    go_loopg [12, 13, 14, 15, 16] k (fun kq v12 v13 v14 v15 v16 w' => ∃ (x12_1 : Int) (x13_1 : Int) (x14_1 : Int) (x15_1 : Int) (x16_1 : Int), v12 = .int .i64 x12_1 ∧ v13 = .int .i64 x13_1 ∧ v14 = .int .i64 x14_1 ∧ v15 = .int .i64 x15_1 ∧ v16 = .int .i64 x16_1 ∧ Aside0 (swashplateref01_Worst.l0 kq t473 t476 x12_1 x13_1 x14_1 x15_1 x16_1 l0_0 l0_1 l0_2 = some (r1, r2, r3)) ∧ Aside0 (kq ≤ k) ∧ Aside0 (Kd.R (Kd.int .i64) 3 w' w.heap.size (fun k_ => some k_ ≠ ((.slice (some ad480) t476.length co26) : Value).ownBlock) (.slice (some ad479) t473.length co25) t473) ∧ Aside0 (Kd.R (Kd.int .i64) 3 w' w.heap.size (fun k_ => some k_ ≠ ((.slice (some ad479) t473.length co25) : Value).ownBlock) (.slice (some ad480) t476.length co26) t476) ∧ Aside0 (w'.heap[gb469]? = some (.cells #[(.slice A0_0 l0_0.length c0_0), (.slice A0_1 l0_1.length c0_1), (.slice A0_2 l0_2.length c0_2)] 25 (0, 0))) ∧ Aside0 (w'.heap[gb470]? = some (.cells #[.int .i64 a1_0, .int .i64 a1_1] 27 (0, 0))) ∧ Aside0 (w'.heap[gb471]? = some (.cells #[.int .i64 a2_0, .int .i64 a2_1] 27 (0, 0))) ∧ Aside0 (Below w.heap.size w w'))
    case atStart => exact ⟨(rd t473 0), (rd t476 0), (t481), (t482), (0), (by first | rfl | (simp; done) | (simp [*]; done)), (by first | rfl | (simp; done) | (simp [*]; done)), (by first | rfl | (simp; done) | (simp [*]; done)), (by first | rfl | (simp; done) | (simp [*]; done)), (by first | rfl | (simp; done) | (simp [*]; done)), H', ⟨Nat.le_refl _⟩, ⟨by (with_reducible repeat (first | apply Kd.R_alloc | apply Kd.R_drewN | apply Kd.R_drew)); exact Kd.R_mono HO475.out (fun _ hk => hk.2)⟩, ⟨by (with_reducible repeat (first | apply Kd.R_alloc | apply Kd.R_drewN | apply Kd.R_drew)); exact Kd.R_mono HO478.out (fun _ hk => hk.2)⟩, ⟨bk_ BK469.out⟩, ⟨bk_ BK470.out⟩, ⟨bk_ BK471.out⟩, ⟨bl_ HB.out⟩⟩
    case round =>
     clear H'
     try clear c1
     try clear p2
     try clear c3
     try clear p4
     try clear q4
     try clear hx4
     try clear qi4
     try clear c5
     try clear c5b0
     try clear c5b1
     try clear c8
     try clear c8b0
     try clear c8b1
     try clear c9
     try clear c9b0
     try clear c9b1
     try clear c10
     try clear c14
     try clear c15
     try clear c17
     try clear hcz16_0
     try clear hcz16_1
     try clear hcz16_2
     try clear hcz18_0
     try clear hcz18_1
     try clear hcz19_0
     try clear hcz19_1
     try clear hcz27_0
     try clear hcz27_1
     try clear hcz27_2
     try clear hfz16_0
     try clear hfz16_1
     try clear hfz16_2
     try clear hfz18_0
     try clear hfz18_1
     try clear hfz19_0
     try clear hfz19_1
     try clear hfz27_0
     try clear hfz27_1
     try clear hfz27_2
     try clear hx479_0
     try clear hx480_0
     try clear p479
     try clear p480
     try clear q479
     try clear q480
     obtain ⟨x12_1, x13_1, x14_1, x15_1, x16_1, rfl, rfl, rfl, rfl, rfl, HA, HK1, HO_10, HO_11, BK469, BK470, BK471, HB⟩ := hrel
     cases gk with
     | zero => exact absurd HA.out (by simp [swashplateref01_Worst.l0])
     | succ k1 =>
      have H := HA.out
      clear HA
      simp only [swashplateref01_Worst.l0] at H
      by_cases c29 : x16_1 < (t473.length : Int)
      ·
       rw [if_pos c29] at H
       have c29b0 : decide (x16_1 < (t473.length : Int)) = true := decide_eq_true c29
       clear c29
       have H' := Aside0.mk H
       clear H
       go_wp2
       go_loopg [12, 13, 14, 15, 17] k1 (fun kq v12 v13 v14 v15 v17 w' => ∃ (x12_2 : Int) (x13_2 : Int) (x14_2 : Int) (x15_2 : Int) (x17_2 : Int), v12 = .int .i64 x12_2 ∧ v13 = .int .i64 x13_2 ∧ v14 = .int .i64 x14_2 ∧ v15 = .int .i64 x15_2 ∧ v17 = .int .i64 x17_2 ∧ Aside0 (swashplateref01_Worst.l1 kq t473 t476 x12_2 x13_2 x14_2 x15_2 x16_1 x17_2 l0_0 l0_1 l0_2 = some (r1, r2, r3)) ∧ Aside0 (kq ≤ k1) ∧ Aside0 (Kd.R (Kd.int .i64) 3 w' w.heap.size (fun k_ => some k_ ≠ ((.slice (some ad480) t476.length co26) : Value).ownBlock) (.slice (some ad479) t473.length co25) t473) ∧ Aside0 (Kd.R (Kd.int .i64) 3 w' w.heap.size (fun k_ => some k_ ≠ ((.slice (some ad479) t473.length co25) : Value).ownBlock) (.slice (some ad480) t476.length co26) t476) ∧ Aside0 (w'.heap[gb469]? = some (.cells #[(.slice A0_0 l0_0.length c0_0), (.slice A0_1 l0_1.length c0_1), (.slice A0_2 l0_2.length c0_2)] 25 (0, 0))) ∧ Aside0 (w'.heap[gb470]? = some (.cells #[.int .i64 a1_0, .int .i64 a1_1] 27 (0, 0))) ∧ Aside0 (w'.heap[gb471]? = some (.cells #[.int .i64 a2_0, .int .i64 a2_1] 27 (0, 0))) ∧ Aside0 (Below w.heap.size w w'))
       case atStart => exact ⟨(x12_1), (x13_1), (x14_1), (x15_1), (0), (by first | rfl | (simp; done) | (simp [*]; done)), (by first | rfl | (simp; done) | (simp [*]; done)), (by first | rfl | (simp; done) | (simp [*]; done)), (by first | rfl | (simp; done) | (simp [*]; done)), (by first | rfl | (simp; done) | (simp [*]; done)), H', ⟨Nat.le_refl _⟩, ⟨by (with_reducible repeat (first | apply Kd.R_alloc | apply Kd.R_drewN | apply Kd.R_drew)); exact HO_10.out⟩, ⟨by (with_reducible repeat (first | apply Kd.R_alloc | apply Kd.R_drewN | apply Kd.R_drew)); exact HO_11.out⟩, ⟨bk_ BK469.out⟩, ⟨bk_ BK470.out⟩, ⟨bk_ BK471.out⟩, ⟨bl_ HB.out⟩⟩
       case round =>
        clear H'
        try clear c1
        try clear c2
        try clear p2
        try clear c3
        try clear p4
        try clear q4
        try clear hx4
        try clear qi4
        try clear c5
        try clear c5b0
        try clear c5b1
        try clear c8
        try clear c8b0
        try clear c8b1
        try clear c9
        try clear c9b0
        try clear c9b1
        try clear c10
        try clear c14
        try clear c15
        try clear c17
        try clear c29
        try clear c29b0
        try clear hcz16_0
        try clear hcz16_1
        try clear hcz16_2
        try clear hcz18_0
        try clear hcz18_1
        try clear hcz19_0
        try clear hcz19_1
        try clear hcz27_0
        try clear hcz27_1
        try clear hcz27_2
        try clear hfz16_0
        try clear hfz16_1
        try clear hfz16_2
        try clear hfz18_0
        try clear hfz18_1
        try clear hfz19_0
        try clear hfz19_1
        try clear hfz27_0
        try clear hfz27_1
        try clear hfz27_2
        try clear hx479_0
        try clear hx480_0
        try clear p2
        try clear p4
        try clear p479
        try clear p480
        try clear q4
        try clear q479
        try clear q480
        obtain ⟨x12_2, x13_2, x14_2, x15_2, x17_2, rfl, rfl, rfl, rfl, rfl, HA, HK2, HO_10, HO_11, BK469, BK470, BK471, HB⟩ := hrel
        cases gk with
        | zero => exact absurd HA.out (by simp [swashplateref01_Worst.l1])
        | succ k2 =>
         have H := HA.out
         clear HA
         simp only [swashplateref01_Worst.l1] at H
         by_cases c30 : x17_2 < (t476.length : Int)
         ·
          rw [if_pos c30] at H
          have c30b0 : decide (x17_2 < (t476.length : Int)) = true := decide_eq_true c30
          clear c30
          by_cases c31 : 0 ≤ x16_1
          ·
           rw [if_pos c31] at H
           have c31b0 : decide (0 ≤ x16_1) = true := decide_eq_true c31
           clear c31
           by_cases c32 : x16_1 < (t473.length : Int)
           ·
            rw [if_pos c32] at H
            have c32b0 : decide (x16_1 < (t473.length : Int)) = true := decide_eq_true c32
            clear c32
            by_cases c33 : 0 ≤ x17_2
            ·
             rw [if_pos c33] at H
             have c33b0 : decide (0 ≤ x17_2) = true := decide_eq_true c33
             clear c33
             replace H := Option.bind_eq_some_iff.mp H
             obtain ⟨⟨t485, t486⟩, A340, H⟩ := H
             replace H : ((swashplateref01_less.f x14_2 x15_2 t485 t486).bind fun t487 => (if t487 = true then (swashplateref01_Worst.l1 k2 t473 t476 (rd t473 x16_1) (rd t476 x17_2) t485 t486 x16_1 (wrap64 (x17_2 + 1)) l0_0 l0_1 l0_2) else (swashplateref01_Worst.l1 k2 t473 t476 x12_2 x13_2 x14_2 x15_2 x16_1 (wrap64 (x17_2 + 1)) l0_0 l0_1 l0_2))) = some (r1, r2, r3) := H
             have A34 := Aside0.mk A340
             clear A340
             replace H := Option.bind_eq_some_iff.mp H
             obtain ⟨t487, A350, H⟩ := H
             replace H : (if t487 = true then (swashplateref01_Worst.l1 k2 t473 t476 (rd t473 x16_1) (rd t476 x17_2) t485 t486 x16_1 (wrap64 (x17_2 + 1)) l0_0 l0_1 l0_2) else (swashplateref01_Worst.l1 k2 t473 t476 x12_2 x13_2 x14_2 x15_2 x16_1 (wrap64 (x17_2 + 1)) l0_0 l0_1 l0_2)) = some (r1, r2, r3) := H
             have A35 := Aside0.mk A350
             clear A350
             by_cases c36 : t487 = true
             ·
              subst c36
              have H1 : (swashplateref01_Worst.l1 k2 t473 t476 (rd t473 x16_1) (rd t476 x17_2) t485 t486 x16_1 (wrap64 (x17_2 + 1)) l0_0 l0_1 l0_2) = some (r1, r2, r3) := by rw [if_pos rfl] at H; exact H
              clear H
              have H := H1
              clear H1
              have H' := Aside0.mk H
              clear H
              try go_wp2
              have n0_ := Aside0.mk (Kd.R_drew HO_10.out)
              have n1_ := Aside0.mk (Kd.R_drew HO_11.out)
              have n2_ := Aside0.mk (blk_drew BK469.out)
              have n3_ := Aside0.mk (blk_drew BK470.out)
              have n4_ := Aside0.mk (blk_drew BK471.out)
              have n5_ := Aside0.mk (below_drew1 HB.out)
              clear HO_10 HO_11 BK469 BK470 BK471 HB
              have HO_10 := n0_
              have HO_11 := n1_
              have BK469 := n2_
              have BK470 := n3_
              have BK471 := n4_
              have HB := n5_
              clear n0_ n1_ n2_ n3_ n4_ n5_
              have p483 : 0 ≤ (x16_1 : Int) := of_decide_eq_true (by first | (with_reducible assumption) | assumption)
              have q483 : x16_1 < (t473.length : Int) := of_decide_eq_true (by first | (with_reducible assumption) | assumption)
              obtain ⟨ad483, e483, hx483_0⟩ := Kd.at_int (Kd.R_reads' HO_10.out).2.2 x16_1 p483 q483
              obtain rfl : ad479 = ad483 := (by injection e483)
              replace p483 := eq_true p483
              replace q483 := eq_true q483
              have p484 : 0 ≤ (x17_2 : Int) := of_decide_eq_true (by first | (with_reducible assumption) | assumption)
              have q484 : x17_2 < (t476.length : Int) := of_decide_eq_true (by first | (with_reducible assumption) | assumption)
              obtain ⟨ad484, e484, hx484_0⟩ := Kd.at_int (Kd.R_reads' HO_11.out).2.2 x17_2 p484 q484
              obtain rfl : ad480 = ad484 := (by injection e484)
              replace p484 := eq_true p484
              replace q484 := eq_true q484
              refine start_ (n := 15) (S := fun w' => w'.cell? ⟨gb469, 0, none⟩ = some (.slice A0_0 l0_0.length c0_0) ∧ w'.cell? ⟨gb469, 1, none⟩ = some (.slice A0_1 l0_1.length c0_1) ∧ w'.cell? ⟨gb469, 2, none⟩ = some (.slice A0_2 l0_2.length c0_2) ∧ w'.cell? (ad479.add (x16_1).toNat) = some (.int .i64 (rd t473 x16_1)) ∧ w'.cell? (ad480.add (x17_2).toNat) = some (.int .i64 (rd t476 x17_2))) (ds := []) #[false, false, false, false, false, false, false, false, false, false, false, false, false, false, false] (by kernel_rfl) rfl rfl ⟨(blk_cell BK469.out 0).trans rfl, (blk_cell BK469.out 1).trans rfl, (blk_cell BK469.out 2).trans rfl, hx483_0, hx484_0⟩ (fun hHeld => ?_); refine with_tabW swashplateref01_Worst.tab13 swashplateref01_Worst.bits13 (fun HT_ HW_ => ?_)
              generalize wr.drew = w37 at HO_10 HO_11 BK469 BK470 BK471 HB hx483_0 hx484_0 hHeld ⊢
              refine pure_ (i := 1) (N := some 62) (v := ?_) (a' := ?_) #[false, true, false, false, false, false, false, false, false, false, false, false, false, false, false] rfl rfl (any_of HT_.out (by kernel_rfl)) (fun _ _ _ h => h) (Or.inl ⟨by rfl, ?_⟩) ?_ ?_
              rotate_left
              ·
               intro w'
               go_simp
               with_reducible rfl
              rotate_left
              ·
               simp only [Act.put, List.setIfInBounds_toArray, List.set_cons_zero, List.set_cons_succ, i64_w, i32_w]
               rfl
              refine pure_ (i := 2) (N := some 63) (v := ?_) (a' := ?_) #[false, true, true, false, false, false, false, false, false, false, false, false, false, false, false] rfl rfl (any_of HT_.out (by kernel_rfl)) (fun _ _ _ h => h) (Or.inl ⟨by rfl, ?_⟩) ?_ ?_
              rotate_left
              ·
               intro w'
               go_simp
               with_reducible rfl
              rotate_left
              ·
               simp only [Act.put, List.setIfInBounds_toArray, List.set_cons_zero, List.set_cons_succ, i64_w, i32_w]
               rfl
              refine pure_ (i := 3) (N := some 64) (v := ?_) (a' := ?_) #[false, true, true, true, false, false, false, false, false, false, false, false, false, false, false] rfl rfl (any_of HT_.out (by kernel_rfl)) (fun _ _ _ h => h) (Or.inl ⟨by rfl, ?_⟩) ?_ ?_
              rotate_left
              ·
               intro w'
               go_simp
               with_reducible rfl
              rotate_left
              ·
               simp only [Act.put, List.setIfInBounds_toArray, List.set_cons_zero, List.set_cons_succ, i64_w, i32_w]
               rfl
              refine pure_ (i := 5) (N := some 66) (v := ?_) (a' := ?_) #[false, true, true, true, false, true, false, false, false, false, false, false, false, false, false] rfl rfl (any_of HT_.out (by kernel_rfl)) (fun _ _ _ h => h) (Or.inl ⟨by rfl, ?_⟩) ?_ ?_
              rotate_left
              ·
               intro w'
               go_simp
               with_reducible rfl
              rotate_left
              ·
               simp only [Act.put, List.setIfInBounds_toArray, List.set_cons_zero, List.set_cons_succ, i64_w, i32_w]
               rfl
              refine pure_ (i := 6) (N := some 67) (v := ?_) (a' := ?_) #[false, true, true, true, false, true, true, false, false, false, false, false, false, false, false] rfl rfl (any_of HT_.out (by kernel_rfl)) (fun _ _ _ h => h) (Or.inl ⟨by rfl, ?_⟩) ?_ ?_
              rotate_left
              ·
               intro w'
               go_simp
               with_reducible rfl
              rotate_left
              ·
               simp only [Act.put, List.setIfInBounds_toArray, List.set_cons_zero, List.set_cons_succ, i64_w, i32_w]
               rfl
              refine pure_ (i := 7) (N := some 68) (v := ?_) (a' := ?_) #[false, true, true, true, false, true, true, true, false, false, false, false, false, false, false] rfl rfl (any_of HT_.out (by kernel_rfl)) (fun _ _ _ h => h) (Or.inl ⟨by rfl, ?_⟩) ?_ ?_
              rotate_left
              ·
               intro w'
               go_simp
               with_reducible rfl
              rotate_left
              ·
               simp only [Act.put, List.setIfInBounds_toArray, List.set_cons_zero, List.set_cons_succ, i64_w, i32_w]
               rfl
              refine take_ (i := 0) (N := some 61) (v := ?_) (a' := ?_) #[true, true, true, true, false, true, true, true, false, false, false, false, false, false, false] rfl rfl (take_ofW HT_.out HW_.out (by kernel_rfl)) (fun _ _ _ h => h) (Or.inl ⟨by rfl, ?_⟩) hHeld ?_ ?_
              rotate_left
              ·
               rintro w' ⟨s0, s1, s2, s3, s4⟩
               go_simp
               with_reducible rfl
              rotate_left
              ·
               simp only [Act.put, List.setIfInBounds_toArray, List.set_cons_zero, List.set_cons_succ, i64_w, i32_w]
               rfl
              refine take_ (i := 4) (N := some 65) (v := ?_) (a' := ?_) #[true, true, true, true, true, true, true, true, false, false, false, false, false, false, false] rfl rfl (take_ofW HT_.out HW_.out (by kernel_rfl)) (fun _ _ _ h => h) (Or.inl ⟨by rfl, ?_⟩) hHeld ?_ ?_
              rotate_left
              ·
               rintro w' ⟨s0, s1, s2, s3, s4⟩
               go_simp
               with_reducible rfl
              rotate_left
              ·
               simp only [Act.put, List.setIfInBounds_toArray, List.set_cons_zero, List.set_cons_succ, i64_w, i32_w]
               rfl
              refine take_ (i := 8) (N := some 69) (v := ?_) (a' := ?_) #[true, true, true, true, true, true, true, true, true, false, false, false, false, false, false] rfl rfl (take_ofW HT_.out HW_.out (by kernel_rfl)) (fun _ _ _ h => h) (Or.inl ⟨by rfl, ?_⟩) hHeld ?_ ?_
              rotate_left
              ·
               rintro w' ⟨s0, s1, s2, s3, s4⟩
               go_simp
               with_reducible rfl
              rotate_left
              ·
               simp only [Act.put, List.setIfInBounds_toArray, List.set_cons_zero, List.set_cons_succ, i64_w, i32_w]
               rfl
              refine one_ (i := 9) (N := some 70) #[true, true, true, true, true, true, true, true, true, true, false, false, false, false, false] rfl rfl (one_of HT_.out (by kernel_rfl)) (by decide) (fun K hK => ?_)
              refine goes_ Try.func102 (by kernel_rfl) rfl #[.agg #[.slice A0_0 l0_0.length c0_0, .slice A0_1 l0_1.length c0_1, .slice A0_2 l0_2.length c0_2], .int .i64 (rd t473 x16_1), .int .i64 (rd t476 x17_2)] (by rfl) rfl rfl (by (try simp only [List.map_toArray, List.map_cons, List.map_nil]); first | done | rfl | (simp only [List.length_drop, List.length_take]; rfl)) ?_
              with_reducible refine (swashplateref01_Value.calls _ _ l0_0 _ _ l0_1 _ _ l0_2 (rd t473 x16_1) (rd t476 x17_2) t485 t486 _ ?side1 ?side2 ?side3 ?side4 ?side5 ?side6 A34.out).mono ?_
              (case side1 => exact cr_ (Kd.C_below HR0_0.out HB.out))
              (case side2 => exact HC0_0.out)
              (case side3 => exact cr_ (Kd.C_below HR0_1.out HB.out))
              (case side4 => exact HC0_1.out)
              (case side5 => exact cr_ (Kd.C_below HR0_2.out HB.out))
              (case side6 => exact HC0_2.out)
              rintro e w38 ⟨rfl, hb⟩
              have HS3_ := (hb.cell (World.block_lt_of_cell? _ _ (hHeld.2.2.2.1))).trans (hHeld.2.2.2.1)
              have HS4_ := (hb.cell (World.block_lt_of_cell? _ _ (hHeld.2.2.2.2))).trans (hHeld.2.2.2.2)
              refine ⟨_, rfl, ?_⟩
              have n0_ := Aside0.mk (Kd.R_below (by (with_reducible repeat (first | apply Kd.R_alloc | apply Kd.R_drewN | apply Kd.R_drew)); exact HO_10.out) hb)
              have n1_ := Aside0.mk (Kd.R_below (by (with_reducible repeat (first | apply Kd.R_alloc | apply Kd.R_drewN | apply Kd.R_drew)); exact HO_11.out) hb)
              have n2_ := Aside0.mk (blk_below (bk_ BK469.out) hb)
              have n3_ := Aside0.mk (blk_below (bk_ BK470.out) hb)
              have n4_ := Aside0.mk (blk_below (bk_ BK471.out) hb)
              have n5_ := Aside0.mk (below_step (bl_ HB.out) hb)
              clear HO_10 HO_11 BK469 BK470 BK471 HB
              have HO_10 := n0_
              have HO_11 := n1_
              have BK469 := n2_
              have BK470 := n3_
              have BK471 := n4_
              have HB := n5_
              clear n0_ n1_ n2_ n3_ n4_ n5_
              (try clear hb)
              (try clear hb2)
              (try clear hk)
              (try clear hi)
              refine hK.out _ _ ⟨(blk_cell BK469.out 0).trans rfl, (blk_cell BK469.out 1).trans rfl, (blk_cell BK469.out 2).trans rfl, HS3_, HS4_⟩ (fun hHeld => ?_)
              clear hK K
              refine norm_ (a' := ?_) ?_ ?_
              rotate_left
              ·
               show Act.put _ (some 70) _ = _
               simp only [Act.put, List.setIfInBounds_toArray, List.set_cons_zero, List.set_cons_succ, i64_w, i32_w]
               rfl
              refine pure_ (i := 10) (N := some 60) (v := ?_) (a' := ?_) #[true, true, true, true, true, true, true, true, true, true, true, false, false, false, false] rfl rfl (any_of HT_.out (by kernel_rfl)) (fun _ _ _ h => h) (Or.inl ⟨by rfl, ?_⟩) ?_ ?_
              rotate_left
              ·
               intro w'
               go_simp
               with_reducible rfl
              rotate_left
              ·
               simp only [Act.put, List.setIfInBounds_toArray, List.set_cons_zero, List.set_cons_succ, i64_w, i32_w]
               rfl
              refine pure_ (i := 11) (N := some 71) (v := ?_) (a' := ?_) #[true, true, true, true, true, true, true, true, true, true, true, true, false, false, false] rfl rfl (any_of HT_.out (by kernel_rfl)) (fun _ _ _ h => h) (Or.inl ⟨by rfl, ?_⟩) ?_ ?_
              rotate_left
              ·
               intro w'
               go_simp
               with_reducible rfl
              rotate_left
              ·
               simp only [Act.put, List.setIfInBounds_toArray, List.set_cons_zero, List.set_cons_succ, i64_w, i32_w]
               rfl
              refine pure_ (i := 12) (N := some 72) (v := ?_) (a' := ?_) #[true, true, true, true, true, true, true, true, true, true, true, true, true, false, false] rfl rfl (any_of HT_.out (by kernel_rfl)) (fun _ _ _ h => h) (Or.inl ⟨by rfl, ?_⟩) ?_ ?_
              rotate_left
              ·
               intro w'
               go_simp
               with_reducible rfl
              rotate_left
              ·
               simp only [Act.put, List.setIfInBounds_toArray, List.set_cons_zero, List.set_cons_succ, i64_w, i32_w]
               rfl
              refine pure_ (i := 13) (N := some 18) (v := ?_) (a' := ?_) #[true, true, true, true, true, true, true, true, true, true, true, true, true, true, false] rfl rfl (any_of HT_.out (by kernel_rfl)) (fun _ _ _ h => h) (Or.inl ⟨by rfl, ?_⟩) ?_ ?_
              rotate_left
              ·
               intro w'
               go_simp
               with_reducible rfl
              rotate_left
              ·
               simp only [Act.put, List.setIfInBounds_toArray, List.set_cons_zero, List.set_cons_succ, i64_w, i32_w]
               rfl
              refine pure_ (i := 14) (N := some 19) (v := ?_) (a' := ?_) #[true, true, true, true, true, true, true, true, true, true, true, true, true, true, true] rfl rfl (any_of HT_.out (by kernel_rfl)) (fun _ _ _ h => h) (Or.inl ⟨by rfl, ?_⟩) ?_ ?_
              rotate_left
              ·
               intro w'
               go_simp
               with_reducible rfl
              rotate_left
              ·
               simp only [Act.put, List.setIfInBounds_toArray, List.set_cons_zero, List.set_cons_succ, i64_w, i32_w]
               rfl
              refine done_ (done_of HT_.out (by kernel_rfl)) ?_
              try go_wp2_with (first | ((with_reducible refine gate_callee (f := 103) rfl ?_); refine goesL_ (some 77) rfl rfl Try.func103 (by kernel_rfl) rfl #[.int .i64 x14_2, .int .i64 x15_2, .int .i64 t485, .int .i64 t486] rfl (by (try simp only [List.map_toArray, List.map_cons, List.map_nil]); first | done | rfl | (simp only [List.length_drop, List.length_take]; rfl)) ?_; (with_reducible refine (swashplateref01_less.calls x14_2 x15_2 t485 t486 true _ A35.out).mono ?_); rintro e w' ⟨rfl, ⟨nd, rfl⟩⟩; refine ⟨_, rfl, ?_⟩; have p488 : 0 ≤ (x16_1 : Int) := of_decide_eq_true (by first | (with_reducible assumption) | assumption); have q488 : x16_1 < (t473.length : Int) := of_decide_eq_true (by first | (with_reducible assumption) | assumption); obtain ⟨ad488, e488, hx488_0⟩ := Kd.at_int (Kd.R_reads' HO_10.out).2.2 x16_1 p488 q488; obtain rfl : ad479 = ad488 := (by injection e488); replace p488 := eq_true p488; replace q488 := eq_true q488; have p489 : 0 ≤ (x17_2 : Int) := of_decide_eq_true (by first | (with_reducible assumption) | assumption); have q489 : x17_2 < (t476.length : Int) := of_decide_eq_true (by first | (with_reducible assumption) | assumption); obtain ⟨ad489, e489, hx489_0⟩ := Kd.at_int (Kd.R_reads' HO_11.out).2.2 x17_2 p489 q489; obtain rfl : ad480 = ad489 := (by injection e489); replace p489 := eq_true p489; replace q489 := eq_true q489))
              go_roundg k2
              case measure => have := HK1.out; have := HK2.out; omega
              case rel => exact ⟨(rd t473 x16_1), (rd t476 x17_2), (t485), (t486), (wrap64 (x17_2 + 1)), (by first | rfl | (simp; done) | (simp [*]; done)), (by first | rfl | (simp; done) | (simp [*]; done)), (by first | rfl | (simp; done) | (simp [*]; done)), (by first | rfl | (simp; done) | (simp [*]; done)), (by first | rfl | (simp; done) | (simp [*]; done)), H', ⟨by have := HK1.out; have := HK2.out; omega⟩, ⟨by (with_reducible repeat (first | apply Kd.R_alloc | apply Kd.R_drewN | apply Kd.R_drew)); exact HO_10.out⟩, ⟨by (with_reducible repeat (first | apply Kd.R_alloc | apply Kd.R_drewN | apply Kd.R_drew)); exact HO_11.out⟩, ⟨bk_ BK469.out⟩, ⟨bk_ BK470.out⟩, ⟨bk_ BK471.out⟩, ⟨bl_ HB.out⟩⟩
             ·
              replace c36 := Bool.eq_false_iff.mpr c36
              subst c36
              have H1 : (swashplateref01_Worst.l1 k2 t473 t476 x12_2 x13_2 x14_2 x15_2 x16_1 (wrap64 (x17_2 + 1)) l0_0 l0_1 l0_2) = some (r1, r2, r3) := by rw [if_neg (show ¬ (false = true) by decide)] at H; exact H
              clear H
              have H := H1
              clear H1
              have H' := Aside0.mk H
              clear H
              try go_wp2
              have n0_ := Aside0.mk (Kd.R_drew HO_10.out)
              have n1_ := Aside0.mk (Kd.R_drew HO_11.out)
              have n2_ := Aside0.mk (blk_drew BK469.out)
              have n3_ := Aside0.mk (blk_drew BK470.out)
              have n4_ := Aside0.mk (blk_drew BK471.out)
              have n5_ := Aside0.mk (below_drew1 HB.out)
              clear HO_10 HO_11 BK469 BK470 BK471 HB
              have HO_10 := n0_
              have HO_11 := n1_
              have BK469 := n2_
              have BK470 := n3_
              have BK471 := n4_
              have HB := n5_
              clear n0_ n1_ n2_ n3_ n4_ n5_
              have p483 : 0 ≤ (x16_1 : Int) := of_decide_eq_true (by first | (with_reducible assumption) | assumption)
              have q483 : x16_1 < (t473.length : Int) := of_decide_eq_true (by first | (with_reducible assumption) | assumption)
              obtain ⟨ad483, e483, hx483_0⟩ := Kd.at_int (Kd.R_reads' HO_10.out).2.2 x16_1 p483 q483
              obtain rfl : ad479 = ad483 := (by injection e483)
              replace p483 := eq_true p483
              replace q483 := eq_true q483
              have p484 : 0 ≤ (x17_2 : Int) := of_decide_eq_true (by first | (with_reducible assumption) | assumption)
              have q484 : x17_2 < (t476.length : Int) := of_decide_eq_true (by first | (with_reducible assumption) | assumption)
              obtain ⟨ad484, e484, hx484_0⟩ := Kd.at_int (Kd.R_reads' HO_11.out).2.2 x17_2 p484 q484
              obtain rfl : ad480 = ad484 := (by injection e484)
              replace p484 := eq_true p484
              replace q484 := eq_true q484
              refine start_ (n := 15) (S := fun w' => w'.cell? ⟨gb469, 0, none⟩ = some (.slice A0_0 l0_0.length c0_0) ∧ w'.cell? ⟨gb469, 1, none⟩ = some (.slice A0_1 l0_1.length c0_1) ∧ w'.cell? ⟨gb469, 2, none⟩ = some (.slice A0_2 l0_2.length c0_2) ∧ w'.cell? (ad479.add (x16_1).toNat) = some (.int .i64 (rd t473 x16_1)) ∧ w'.cell? (ad480.add (x17_2).toNat) = some (.int .i64 (rd t476 x17_2))) (ds := []) #[false, false, false, false, false, false, false, false, false, false, false, false, false, false, false] (by kernel_rfl) rfl rfl ⟨(blk_cell BK469.out 0).trans rfl, (blk_cell BK469.out 1).trans rfl, (blk_cell BK469.out 2).trans rfl, hx483_0, hx484_0⟩ (fun hHeld => ?_); refine with_tabW swashplateref01_Worst.tab13 swashplateref01_Worst.bits13 (fun HT_ HW_ => ?_)
              generalize wr.drew = w39 at HO_10 HO_11 BK469 BK470 BK471 HB hx483_0 hx484_0 hHeld ⊢
              refine pure_ (i := 1) (N := some 62) (v := ?_) (a' := ?_) #[false, true, false, false, false, false, false, false, false, false, false, false, false, false, false] rfl rfl (any_of HT_.out (by kernel_rfl)) (fun _ _ _ h => h) (Or.inl ⟨by rfl, ?_⟩) ?_ ?_
              rotate_left
              ·
               intro w'
               go_simp
               with_reducible rfl
              rotate_left
              ·
               simp only [Act.put, List.setIfInBounds_toArray, List.set_cons_zero, List.set_cons_succ, i64_w, i32_w]
               rfl
              refine pure_ (i := 2) (N := some 63) (v := ?_) (a' := ?_) #[false, true, true, false, false, false, false, false, false, false, false, false, false, false, false] rfl rfl (any_of HT_.out (by kernel_rfl)) (fun _ _ _ h => h) (Or.inl ⟨by rfl, ?_⟩) ?_ ?_
              rotate_left
              ·
               intro w'
               go_simp
               with_reducible rfl
              rotate_left
              ·
               simp only [Act.put, List.setIfInBounds_toArray, List.set_cons_zero, List.set_cons_succ, i64_w, i32_w]
               rfl
              refine pure_ (i := 3) (N := some 64) (v := ?_) (a' := ?_) #[false, true, true, true, false, false, false, false, false, false, false, false, false, false, false] rfl rfl (any_of HT_.out (by kernel_rfl)) (fun _ _ _ h => h) (Or.inl ⟨by rfl, ?_⟩) ?_ ?_
              rotate_left
              ·
               intro w'
               go_simp
               with_reducible rfl
              rotate_left
              ·
               simp only [Act.put, List.setIfInBounds_toArray, List.set_cons_zero, List.set_cons_succ, i64_w, i32_w]
               rfl
              refine pure_ (i := 5) (N := some 66) (v := ?_) (a' := ?_) #[false, true, true, true, false, true, false, false, false, false, false, false, false, false, false] rfl rfl (any_of HT_.out (by kernel_rfl)) (fun _ _ _ h => h) (Or.inl ⟨by rfl, ?_⟩) ?_ ?_
              rotate_left
              ·
               intro w'
               go_simp
               with_reducible rfl
              rotate_left
              ·
               simp only [Act.put, List.setIfInBounds_toArray, List.set_cons_zero, List.set_cons_succ, i64_w, i32_w]
               rfl
              refine pure_ (i := 6) (N := some 67) (v := ?_) (a' := ?_) #[false, true, true, true, false, true, true, false, false, false, false, false, false, false, false] rfl rfl (any_of HT_.out (by kernel_rfl)) (fun _ _ _ h => h) (Or.inl ⟨by rfl, ?_⟩) ?_ ?_
              rotate_left
              ·
               intro w'
               go_simp
               with_reducible rfl
              rotate_left
              ·
               simp only [Act.put, List.setIfInBounds_toArray, List.set_cons_zero, List.set_cons_succ, i64_w, i32_w]
               rfl
              refine pure_ (i := 7) (N := some 68) (v := ?_) (a' := ?_) #[false, true, true, true, false, true, true, true, false, false, false, false, false, false, false] rfl rfl (any_of HT_.out (by kernel_rfl)) (fun _ _ _ h => h) (Or.inl ⟨by rfl, ?_⟩) ?_ ?_
              rotate_left
              ·
               intro w'
               go_simp
               with_reducible rfl
              rotate_left
              ·
               simp only [Act.put, List.setIfInBounds_toArray, List.set_cons_zero, List.set_cons_succ, i64_w, i32_w]
               rfl
              refine take_ (i := 0) (N := some 61) (v := ?_) (a' := ?_) #[true, true, true, true, false, true, true, true, false, false, false, false, false, false, false] rfl rfl (take_ofW HT_.out HW_.out (by kernel_rfl)) (fun _ _ _ h => h) (Or.inl ⟨by rfl, ?_⟩) hHeld ?_ ?_
              rotate_left
              ·
               rintro w' ⟨s0, s1, s2, s3, s4⟩
               go_simp
               with_reducible rfl
              rotate_left
              ·
               simp only [Act.put, List.setIfInBounds_toArray, List.set_cons_zero, List.set_cons_succ, i64_w, i32_w]
               rfl
              refine take_ (i := 4) (N := some 65) (v := ?_) (a' := ?_) #[true, true, true, true, true, true, true, true, false, false, false, false, false, false, false] rfl rfl (take_ofW HT_.out HW_.out (by kernel_rfl)) (fun _ _ _ h => h) (Or.inl ⟨by rfl, ?_⟩) hHeld ?_ ?_
              rotate_left
              ·
               rintro w' ⟨s0, s1, s2, s3, s4⟩
               go_simp
               with_reducible rfl
              rotate_left
              ·
               simp only [Act.put, List.setIfInBounds_toArray, List.set_cons_zero, List.set_cons_succ, i64_w, i32_w]
               rfl
              refine take_ (i := 8) (N := some 69) (v := ?_) (a' := ?_) #[true, true, true, true, true, true, true, true, true, false, false, false, false, false, false] rfl rfl (take_ofW HT_.out HW_.out (by kernel_rfl)) (fun _ _ _ h => h) (Or.inl ⟨by rfl, ?_⟩) hHeld ?_ ?_
              rotate_left
              ·
               rintro w' ⟨s0, s1, s2, s3, s4⟩
               go_simp
               with_reducible rfl
              rotate_left
              ·
               simp only [Act.put, List.setIfInBounds_toArray, List.set_cons_zero, List.set_cons_succ, i64_w, i32_w]
               rfl
              refine one_ (i := 9) (N := some 70) #[true, true, true, true, true, true, true, true, true, true, false, false, false, false, false] rfl rfl (one_of HT_.out (by kernel_rfl)) (by decide) (fun K hK => ?_)
              refine goes_ Try.func102 (by kernel_rfl) rfl #[.agg #[.slice A0_0 l0_0.length c0_0, .slice A0_1 l0_1.length c0_1, .slice A0_2 l0_2.length c0_2], .int .i64 (rd t473 x16_1), .int .i64 (rd t476 x17_2)] (by rfl) rfl rfl (by (try simp only [List.map_toArray, List.map_cons, List.map_nil]); first | done | rfl | (simp only [List.length_drop, List.length_take]; rfl)) ?_
              with_reducible refine (swashplateref01_Value.calls _ _ l0_0 _ _ l0_1 _ _ l0_2 (rd t473 x16_1) (rd t476 x17_2) t485 t486 _ ?side1 ?side2 ?side3 ?side4 ?side5 ?side6 A34.out).mono ?_
              (case side1 => exact cr_ (Kd.C_below HR0_0.out HB.out))
              (case side2 => exact HC0_0.out)
              (case side3 => exact cr_ (Kd.C_below HR0_1.out HB.out))
              (case side4 => exact HC0_1.out)
              (case side5 => exact cr_ (Kd.C_below HR0_2.out HB.out))
              (case side6 => exact HC0_2.out)
              rintro e w40 ⟨rfl, hb⟩
              have HS3_ := (hb.cell (World.block_lt_of_cell? _ _ (hHeld.2.2.2.1))).trans (hHeld.2.2.2.1)
              have HS4_ := (hb.cell (World.block_lt_of_cell? _ _ (hHeld.2.2.2.2))).trans (hHeld.2.2.2.2)
              refine ⟨_, rfl, ?_⟩
              have n0_ := Aside0.mk (Kd.R_below (by (with_reducible repeat (first | apply Kd.R_alloc | apply Kd.R_drewN | apply Kd.R_drew)); exact HO_10.out) hb)
              have n1_ := Aside0.mk (Kd.R_below (by (with_reducible repeat (first | apply Kd.R_alloc | apply Kd.R_drewN | apply Kd.R_drew)); exact HO_11.out) hb)
              have n2_ := Aside0.mk (blk_below (bk_ BK469.out) hb)
              have n3_ := Aside0.mk (blk_below (bk_ BK470.out) hb)
              have n4_ := Aside0.mk (blk_below (bk_ BK471.out) hb)
              have n5_ := Aside0.mk (below_step (bl_ HB.out) hb)
              clear HO_10 HO_11 BK469 BK470 BK471 HB
              have HO_10 := n0_
              have HO_11 := n1_
              have BK469 := n2_
              have BK470 := n3_
              have BK471 := n4_
              have HB := n5_
              clear n0_ n1_ n2_ n3_ n4_ n5_
              (try clear hb)
              (try clear hb2)
              (try clear hk)
              (try clear hi)
              refine hK.out _ _ ⟨(blk_cell BK469.out 0).trans rfl, (blk_cell BK469.out 1).trans rfl, (blk_cell BK469.out 2).trans rfl, HS3_, HS4_⟩ (fun hHeld => ?_)
              clear hK K
              refine norm_ (a' := ?_) ?_ ?_
              rotate_left
              ·
               show Act.put _ (some 70) _ = _
               simp only [Act.put, List.setIfInBounds_toArray, List.set_cons_zero, List.set_cons_succ, i64_w, i32_w]
               rfl
              refine pure_ (i := 10) (N := some 60) (v := ?_) (a' := ?_) #[true, true, true, true, true, true, true, true, true, true, true, false, false, false, false] rfl rfl (any_of HT_.out (by kernel_rfl)) (fun _ _ _ h => h) (Or.inl ⟨by rfl, ?_⟩) ?_ ?_
              rotate_left
              ·
               intro w'
               go_simp
               with_reducible rfl
              rotate_left
              ·
               simp only [Act.put, List.setIfInBounds_toArray, List.set_cons_zero, List.set_cons_succ, i64_w, i32_w]
               rfl
              refine pure_ (i := 11) (N := some 71) (v := ?_) (a' := ?_) #[true, true, true, true, true, true, true, true, true, true, true, true, false, false, false] rfl rfl (any_of HT_.out (by kernel_rfl)) (fun _ _ _ h => h) (Or.inl ⟨by rfl, ?_⟩) ?_ ?_
              rotate_left
              ·
               intro w'
               go_simp
               with_reducible rfl
              rotate_left
              ·
               simp only [Act.put, List.setIfInBounds_toArray, List.set_cons_zero, List.set_cons_succ, i64_w, i32_w]
               rfl
              refine pure_ (i := 12) (N := some 72) (v := ?_) (a' := ?_) #[true, true, true, true, true, true, true, true, true, true, true, true, true, false, false] rfl rfl (any_of HT_.out (by kernel_rfl)) (fun _ _ _ h => h) (Or.inl ⟨by rfl, ?_⟩) ?_ ?_
              rotate_left
              ·
               intro w'
               go_simp
               with_reducible rfl
              rotate_left
              ·
               simp only [Act.put, List.setIfInBounds_toArray, List.set_cons_zero, List.set_cons_succ, i64_w, i32_w]
               rfl
              refine pure_ (i := 13) (N := some 18) (v := ?_) (a' := ?_) #[true, true, true, true, true, true, true, true, true, true, true, true, true, true, false] rfl rfl (any_of HT_.out (by kernel_rfl)) (fun _ _ _ h => h) (Or.inl ⟨by rfl, ?_⟩) ?_ ?_
              rotate_left
              ·
               intro w'
               go_simp
               with_reducible rfl
              rotate_left
              ·
               simp only [Act.put, List.setIfInBounds_toArray, List.set_cons_zero, List.set_cons_succ, i64_w, i32_w]
               rfl
              refine pure_ (i := 14) (N := some 19) (v := ?_) (a' := ?_) #[true, true, true, true, true, true, true, true, true, true, true, true, true, true, true] rfl rfl (any_of HT_.out (by kernel_rfl)) (fun _ _ _ h => h) (Or.inl ⟨by rfl, ?_⟩) ?_ ?_
              rotate_left
              ·
               intro w'
               go_simp
               with_reducible rfl
              rotate_left
              ·
               simp only [Act.put, List.setIfInBounds_toArray, List.set_cons_zero, List.set_cons_succ, i64_w, i32_w]
               rfl
              refine done_ (done_of HT_.out (by kernel_rfl)) ?_
              try go_wp2_with (first | ((with_reducible refine gate_callee (f := 103) rfl ?_); refine goesL_ (some 77) rfl rfl Try.func103 (by kernel_rfl) rfl #[.int .i64 x14_2, .int .i64 x15_2, .int .i64 t485, .int .i64 t486] rfl (by (try simp only [List.map_toArray, List.map_cons, List.map_nil]); first | done | rfl | (simp only [List.length_drop, List.length_take]; rfl)) ?_; (with_reducible refine (swashplateref01_less.calls x14_2 x15_2 t485 t486 false _ A35.out).mono ?_); rintro e w' ⟨rfl, ⟨nd, rfl⟩⟩; refine ⟨_, rfl, ?_⟩))
              go_roundg k2
              case measure => have := HK1.out; have := HK2.out; omega
              case rel => exact ⟨(x12_2), (x13_2), (x14_2), (x15_2), (wrap64 (x17_2 + 1)), (by first | rfl | (simp; done) | (simp [*]; done)), (by first | rfl | (simp; done) | (simp [*]; done)), (by first | rfl | (simp; done) | (simp [*]; done)), (by first | rfl | (simp; done) | (simp [*]; done)), (by first | rfl | (simp; done) | (simp [*]; done)), H', ⟨by have := HK1.out; have := HK2.out; omega⟩, ⟨by (with_reducible repeat (first | apply Kd.R_alloc | apply Kd.R_drewN | apply Kd.R_drew)); exact HO_10.out⟩, ⟨by (with_reducible repeat (first | apply Kd.R_alloc | apply Kd.R_drewN | apply Kd.R_drew)); exact HO_11.out⟩, ⟨bk_ BK469.out⟩, ⟨bk_ BK470.out⟩, ⟨bk_ BK471.out⟩, ⟨bl_ HB.out⟩⟩
            ·
             rw [if_neg c33] at H
             exact absurd H (by simp)
           ·
            rw [if_neg c32] at H
            exact absurd H (by simp)
          ·
           rw [if_neg c31] at H
           exact absurd H (by simp)
         ·
          rw [if_neg c30] at H
          have c30b0 : decide (x17_2 < (t476.length : Int)) = false := decide_eq_false c30
          clear c30
          have H' := Aside0.mk H
          clear H
          go_wp2
          go_roundg k2
          case measure => have := HK1.out; have := HK2.out; omega
          case rel => exact ⟨(x12_2), (x13_2), (x14_2), (x15_2), (wrap64 (x16_1 + 1)), (by first | rfl | (simp; done) | (simp [*]; done)), (by first | rfl | (simp; done) | (simp [*]; done)), (by first | rfl | (simp; done) | (simp [*]; done)), (by first | rfl | (simp; done) | (simp [*]; done)), (by first | rfl | (simp; done) | (simp [*]; done)), H', ⟨by have := HK1.out; have := HK2.out; omega⟩, ⟨by (with_reducible repeat (first | apply Kd.R_alloc | apply Kd.R_drewN | apply Kd.R_drew)); exact HO_10.out⟩, ⟨by (with_reducible repeat (first | apply Kd.R_alloc | apply Kd.R_drewN | apply Kd.R_drew)); exact HO_11.out⟩, ⟨bk_ BK469.out⟩, ⟨bk_ BK470.out⟩, ⟨bk_ BK471.out⟩, ⟨bl_ HB.out⟩⟩
      ·
       rw [if_neg c29] at H
       have c29b0 : decide (x16_1 < (t473.length : Int)) = false := decide_eq_false c29
       clear c29
       simp only [Option.some.injEq, Prod.mk.injEq] at H
       obtain ⟨rfl, rfl, rfl⟩ := H
       go_wp2
       go_ret3
       exact ⟨by first | rfl | (simp [errW_none, errW_some] <;> rfl) | (simp [*, errW_none, errW_some] <;> rfl), bl_ HB.out⟩
   ·
    rw [if_neg c9] at H
    exact absurd H (by simp)
  ·
   rw [if_neg c8] at H
   exact absurd H (by simp)
 ·
  rw [if_neg c5] at H
  have c5b0 : (t472 == 0) = false := beq_eq_false_iff_ne.mpr c5
  have c5b1 : (t472 != 0) = true := bne_iff_ne.mpr c5
  simp only [Option.some.injEq, Prod.mk.injEq] at H
  obtain ⟨rfl, rfl, rfl⟩ := H
  go_enter Try.func33, Try.ntmps33
  go_wp2_with (first | ((with_reducible refine gate_dst (N := 3) rfl ?_); refine box_event ?hg (N := 3) ?hd (cs := #[.slice A0_0 l0_0.length c0_0, .slice A0_1 l0_1.length c0_1, .slice A0_2 l0_2.length c0_2]) (t := 25) ?hr ?_; (case hd => rfl); (case hg => rfl); (case hr => first | (go_simp; done) | (go_simp; rfl)); intro gb469 hg w41 hbox hb; have n0_ := Aside0.mk (below_step (bl_ HB.out) hb); have n1_ := Aside0.mk (hbox); have n2_ := Aside0.mk (szl_ hg HB.out); have n3_ := Aside0.mk (szl_ hg HB.out); clear HB; have HB := n0_; have BK469 := n1_; have GW469 := n2_; have GE469 := n3_; clear n0_ n1_ n2_ n3_ hb hbox hg) | ((with_reducible refine gate_dst (N := 4) rfl ?_); refine box_event ?hg (N := 4) ?hd (cs := #[.int .i64 a1_0, .int .i64 a1_1]) (t := 27) ?hr ?_; (case hd => rfl); (case hg => rfl); (case hr => first | (go_simp; done) | (go_simp; rfl)); intro gb470 hg w42 hbox hb; have n0_ := Aside0.mk (blk_below (bk_ BK469.out) hb); have n1_ := Aside0.mk (below_step (bl_ HB.out) hb); have n2_ := Aside0.mk (hbox); have n3_ := Aside0.mk (szl_ hg HB.out); have n4_ := Aside0.mk (szl_ hg HB.out); have n5_ := Aside0.mk (nel_ hg BK469.out); have n6_ := Aside0.mk (ner_ hg BK469.out); clear BK469 HB; have BK469 := n0_; have HB := n1_; have BK470 := n2_; have GW470 := n3_; have GE470 := n4_; have NB469_470 := n5_; have NB470_469 := n6_; clear n0_ n1_ n2_ n3_ n4_ n5_ n6_ hb hbox hg) | ((with_reducible refine gate_dst (N := 5) rfl ?_); refine box_event ?hg (N := 5) ?hd (cs := #[.int .i64 a2_0, .int .i64 a2_1]) (t := 27) ?hr ?_; (case hd => rfl); (case hg => rfl); (case hr => first | (go_simp; done) | (go_simp; rfl)); intro gb471 hg w43 hbox hb; have n0_ := Aside0.mk (blk_below (bk_ BK469.out) hb); have n1_ := Aside0.mk (blk_below (bk_ BK470.out) hb); have n2_ := Aside0.mk (below_step (bl_ HB.out) hb); have n3_ := Aside0.mk (hbox); have n4_ := Aside0.mk (szl_ hg HB.out); have n5_ := Aside0.mk (szl_ hg HB.out); have n6_ := Aside0.mk (nel_ hg BK469.out); have n7_ := Aside0.mk (ner_ hg BK469.out); have n8_ := Aside0.mk (nel_ hg BK470.out); have n9_ := Aside0.mk (ner_ hg BK470.out); clear BK469 BK470 HB; have BK469 := n0_; have BK470 := n1_; have HB := n2_; have BK471 := n3_; have GW471 := n4_; have GE471 := n5_; have NB469_471 := n6_; have NB471_469 := n7_; have NB470_471 := n8_; have NB471_470 := n9_; clear n0_ n1_ n2_ n3_ n4_ n5_ n6_ n7_ n8_ n9_ hb hbox hg; have hnb44 := NB469_470.out; have hnc44 := NB470_469.out; have hnb45 := NB469_471.out; have hnc45 := NB471_469.out; have hcz46_0 : w43.cell? ⟨gb469, 0, none⟩ = some (.slice A0_0 l0_0.length c0_0) := (blk_cell BK469.out 0).trans rfl; have hcz46_1 : w43.cell? ⟨gb469, 1, none⟩ = some (.slice A0_1 l0_1.length c0_1) := (blk_cell BK469.out 1).trans rfl; have hcz46_2 : w43.cell? ⟨gb469, 2, none⟩ = some (.slice A0_2 l0_2.length c0_2) := (blk_cell BK469.out 2).trans rfl; have hfz46_0 := blk_frozen BK469.out 0; have hfz46_1 := blk_frozen BK469.out 1; have hfz46_2 := blk_frozen BK469.out 2; have hnb47 := NB470_471.out; have hnc47 := NB471_470.out; have hcz48_0 : w43.cell? ⟨gb470, 0, none⟩ = some (.int .i64 a1_0) := (blk_cell BK470.out 0).trans rfl; have hcz48_1 : w43.cell? ⟨gb470, 1, none⟩ = some (.int .i64 a1_1) := (blk_cell BK470.out 1).trans rfl; have hfz48_0 := blk_frozen BK470.out 0; have hfz48_1 := blk_frozen BK470.out 1; have hcz49_0 : w43.cell? ⟨gb471, 0, none⟩ = some (.int .i64 a2_0) := (blk_cell BK471.out 0).trans rfl; have hcz49_1 : w43.cell? ⟨gb471, 1, none⟩ = some (.int .i64 a2_1) := (blk_cell BK471.out 1).trans rfl; have hfz49_0 := blk_frozen BK471.out 0; have hfz49_1 := blk_frozen BK471.out 1) | ((with_reducible refine gate_callee (f := 52) rfl ?_); refine goesL_ (some 23) rfl rfl Try.func52 (by kernel_rfl) rfl #[.agg #[.slice A0_0 l0_0.length c0_0, .slice A0_1 l0_1.length c0_1, .slice A0_2 l0_2.length c0_2], .agg #[.int .i64 a1_0, .int .i64 a1_1], .agg #[.int .i64 a2_0, .int .i64 a2_1]] rfl (by (try simp only [List.map_toArray, List.map_cons, List.map_nil]); first | done | rfl | (simp only [List.length_drop, List.length_take]; rfl)) ?_; (with_reducible refine (swashplateref01_CheckBound.calls k _ _ l0_0 _ _ l0_1 _ _ l0_2 a1_0 a1_1 a2_0 a2_1 t472 _ ?side1 ?side2 ?side3 ?side4 ?side5 ?side6 A4.out).mono ?_); (case side1 => exact cr_ (Kd.C_below HR0_0.out HB.out)); (case side2 => exact HC0_0.out); (case side3 => exact cr_ (Kd.C_below HR0_1.out HB.out)); (case side4 => exact HC0_1.out); (case side5 => exact cr_ (Kd.C_below HR0_2.out HB.out)); (case side6 => exact HC0_2.out); rintro e w50 ⟨rfl, hb⟩; refine ⟨_, rfl, ?_⟩; have n0_ := Aside0.mk (blk_below (bk_ BK469.out) hb); have n1_ := Aside0.mk (blk_below (bk_ BK470.out) hb); have n2_ := Aside0.mk (blk_below (bk_ BK471.out) hb); have n3_ := Aside0.mk (below_step (bl_ HB.out) hb); clear BK469 BK470 BK471 HB; have BK469 := n0_; have BK470 := n1_; have BK471 := n2_; have HB := n3_; clear n0_ n1_ n2_ n3_; (try clear hb); (try clear hb2); (try clear hk); (try clear hi)))
  go_ret3
  exact ⟨by first | rfl | (simp [errW_none, errW_some] <;> rfl) | (simp [*, errW_none, errW_some] <;> rfl), bl_ HB.out⟩
end Go.Proofs.Yteodlmgmmpkpoaa.PS
end
section
namespace Go.Proofs.Yteodlmgmmpkpoaa.PS
open Go.RowKit Go.Proofs.YteodlmgmmpkpoaaW.PrintWords Go.Proofs.YteodlmgmmpkpoaaW.PrintLast Go.Proofs.YteodlmgmmpkpoaaW.PrintMore
set_option linter.unusedVariables false
def boundR (X Y : List Int) (V : List (List Int)) (a0 a1 b0 b1 : Int) : Int × Int × Int :=
  if pointsE X Y V a0 a1 b0 b1 = 0 then (flP (leastP (ptsL X Y V a0 a1 b0 b1)), ceP (mostP (ptsL X Y V a0 a1 b0 b1)), 0) else (0, 0, pointsE X Y V a0 a1 b0 b1)
theorem bound_total (X Y : List Int) (V : List (List Int)) (a0 a1 b0 b1 : Int) : spans_Bound.f X Y V a0 a1 b0 b1 = some (boundR X Y V a0 a1 b0 b1) := by
  unfold spans_Bound.f boundR
  rw [cp_total, Option.bind_some]
  by_cases he : pointsE X Y V a0 a1 b0 b1 = 0
  · have h := box2_of ((points_iff X Y V a0 a1 b0 b1).1 he)
    rw [if_pos he, if_pos he, ext_total h, Option.bind_some]
    dsimp only
    rw [good_fl (h.goodL h.least_in), Option.bind_some, good_up (h.goodL h.most_in), Option.bind_some]
  · rw [if_neg he, if_neg he]
theorem rbound_total (X Y : List Int) (V : List (List Int)) (hx : X.length ≤ 15) (hy : Y.length ≤ 15) (hv : V.length ≤ 15) (hr : ∀ r ∈ V, r.length ≤ 15) (a0 a1 b0 b1 : Int) (k : Nat) (hk : 700 < k) :
    swashplateref01_Bound.f k X Y V a0 a1 b0 b1 = some (boundR X Y V a0 a1 b0 b1) := by
  unfold swashplateref01_Bound.f boundR
  rw [cb_total X Y V hx hy hv hr a0 a1 b0 b1 k hk, Option.bind_some]
  by_cases he : pointsE X Y V a0 a1 b0 b1 = 0
  · have hb := (points_iff X Y V a0 a1 b0 b1).1 he
    have h := box2_of hb
    rw [if_pos he, if_pos he]
    unfold swashplateref01_bound.f
    rw [if_pos hb, Option.bind_some]
    dsimp only
    rw [h.lo_eq, h.hi_eq]
  · rw [if_neg he, if_neg he]
def worstR (X Y : List Int) (V : List (List Int)) (a0 a1 b0 b1 : Int) : Int × Int × Int :=
  if pointsE X Y V a0 a1 b0 b1 = 0 then ((mostP (ptsL X Y V a0 a1 b0 b1)).x, (mostP (ptsL X Y V a0 a1 b0 b1)).y, 0) else (0, 0, pointsE X Y V a0 a1 b0 b1)
theorem worst_total (X Y : List Int) (V : List (List Int)) (a0 a1 b0 b1 : Int) : spans_Worst.f X Y V a0 a1 b0 b1 = some (worstR X Y V a0 a1 b0 b1) := by
  unfold spans_Worst.f worstR
  rw [cp_total, Option.bind_some]
  by_cases he : pointsE X Y V a0 a1 b0 b1 = 0
  · have h := box2_of ((points_iff X Y V a0 a1 b0 b1).1 he)
    rw [if_pos he, if_pos he, ext_total h, Option.bind_some]
  · rw [if_neg he, if_neg he]
structure SameP (p q : Pt) : Prop where
  x : p.x = q.x
  y : p.y = q.y
  v : p.n * q.d = q.n * p.d
  dp : 0 < p.d
  dq : 0 < q.d
theorem same_lt {p q p' q' : Pt} (hp : SameP p p') (hq : SameP q q') : ltP p q = ltP p' q' := by
  unfold ltP
  rw [decide_eq_decide]
  have e1 : (p.n * q.d) * (p'.d * q'.d) = (p'.n * q'.d) * (p.d * q.d) := by
    have := hp.v
    calc (p.n * q.d) * (p'.d * q'.d) = (p.n * p'.d) * (q.d * q'.d) := by grind
      _ = (p'.n * p.d) * (q.d * q'.d) := by rw [this]
      _ = (p'.n * q'.d) * (p.d * q.d) := by grind
  have e2 : (q.n * p.d) * (p'.d * q'.d) = (q'.n * p'.d) * (p.d * q.d) := by
    have := hq.v
    calc (q.n * p.d) * (p'.d * q'.d) = (q.n * q'.d) * (p.d * p'.d) := by grind
      _ = (q'.n * q.d) * (p.d * p'.d) := by rw [this]
      _ = (q'.n * p'.d) * (p.d * q.d) := by grind
  have m1 : 0 < p'.d * q'.d := Int.mul_pos hp.dq hq.dq
  have m2 : 0 < p.d * q.d := Int.mul_pos hp.dp hq.dp
  constructor
  · intro h
    have := Int.mul_lt_mul_of_pos_right h m1
    rw [e1, e2] at this
    exact Int.lt_of_mul_lt_mul_right this (Int.le_of_lt m2)
  · intro h
    have := Int.mul_lt_mul_of_pos_right h m2
    rw [← e1, ← e2] at this
    exact Int.lt_of_mul_lt_mul_right this (Int.le_of_lt m1)
def stepM (m q : Pt) : Pt := if ltP m q then q else m
theorem same_step {p q p' q' : Pt} (hp : SameP p p') (hq : SameP q q') : SameP (stepM p q) (stepM p' q') := by
  unfold stepM
  rw [same_lt hp hq]
  cases ltP p' q'
  · exact hp
  · exact hq
theorem same_row (f g : Int → Pt) : ∀ (ys : List Int), (∀ y ∈ ys, SameP (f y) (g y)) → ∀ m m', SameP m m' → SameP ((ys.map f).foldl stepM m) ((ys.map g).foldl stepM m')
  | [], _, _, _, h => h
  | y :: ys, he, m, m', h => by
    rw [List.map_cons, List.map_cons, List.foldl_cons, List.foldl_cons]
    exact same_row f g ys (fun z hz => he z (List.mem_cons_of_mem _ hz)) _ _ (same_step h (he y List.mem_cons_self))
theorem same_grid (f g : Int → Int → Pt) (ys : List Int) : ∀ (xs : List Int), (∀ x ∈ xs, ∀ y ∈ ys, SameP (f x y) (g x y)) → ∀ m m', SameP m m' → SameP ((gridL xs ys f).foldl stepM m) ((gridL xs ys g).foldl stepM m')
  | [], _, _, _, h => h
  | x :: xs, he, m, m', h => by
    rw [show gridL (x :: xs) ys f = ys.map (fun y => f x y) ++ gridL xs ys f from rfl, show gridL (x :: xs) ys g = ys.map (fun y => g x y) ++ gridL xs ys g from rfl, List.foldl_append, List.foldl_append]
    exact same_grid f g ys xs (fun z hz => he z (List.mem_cons_of_mem _ hz)) _ _ (same_row _ _ ys (he x List.mem_cons_self) _ _ h)
theorem same_pt {X Y : List Int} {V : List (List Int)} (ht : tableB X Y V = true) {x y : Int} (hx : onB X x x = true) (hy : onB Y y y = true) : SameP (ptAt X Y V x y) (ptRef X Y V x y) := by
  have t := tb_of ht
  have sx := cell_spot t.ax hx
  have sx' := part_spot t.ax hx
  have sy := cell_spot t.ay hy
  have sy' := part_spot t.ay hy
  exact ⟨rfl, rfl, frac_eq t.ax t.ay sx sx' sy sy', den_pos t.ax t.ay sx.lt sy.lt, den_pos t.ax t.ay sx'.lt sy'.lt⟩
theorem most_fold (p : Pt) (l : List Pt) : mostP (p :: l) = (p :: l).foldl stepM p := by
  unfold mostP
  rw [List.foldl_cons, show stepM p p = p by unfold stepM; split <;> rfl]
  rfl
section
variable {X Y : List Int} {V : List (List Int)} {a0 a1 b0 b1 : Int}
theorem Box2.most_same (h : Box2 X Y V a0 a1 b0 b1) : SameP (mostP (ptsL X Y V a0 a1 b0 b1)) ((ptsR X Y V a0 a1 b0 b1).foldl stepM (ptRef X Y V a0 b0)) := by
  obtain ⟨r, hr⟩ := grid_cons X Y a0 a1 b0 b1 (ptAt X Y V)
  have hx0 : a0 ∈ stopsL X a0 a1 := by obtain ⟨r, hr⟩ := stops_cons X a0 a1; rw [hr]; simp
  have hy0 : b0 ∈ stopsL Y b0 b1 := by obtain ⟨r, hr⟩ := stops_cons Y b0 b1; rw [hr]; simp
  have e : mostP (ptsL X Y V a0 a1 b0 b1) = (ptsL X Y V a0 a1 b0 b1).foldl stepM (ptAt X Y V a0 b0) := by unfold ptsL; rw [hr]; exact most_fold _ _
  rw [e]
  exact same_grid _ _ _ _ (fun x hx y hy => same_pt h.tab (h.stx hx).1 (h.sty hy).1) _ _ (same_pt h.tab (h.stx hx0).1 (h.sty hy0).1)
end
theorem rworst_loop {X Y : List Int} {V : List (List Int)} (ht : tableB X Y V = true) (xs ys : List Int) (hx : ∀ i, i < xs.length → onB X (gI xs i) (gI xs i) = true) (hy : ∀ j, j < ys.length → onB Y (gI ys j) (gI ys j) = true)
    (hxl : xs.length ≤ 14) (hyl : ys.length ≤ 14) : ∀ k : Nat,
    (∀ (i : Nat) (m : Pt), GoodP m → i ≤ xs.length → 20 * (xs.length - i) < k → swashplateref01_Worst.l0 k xs ys m.x m.y m.n m.d i X Y V = some (((gridL (xs.drop i) ys (ptRef X Y V)).foldl stepM m).x, ((gridL (xs.drop i) ys (ptRef X Y V)).foldl stepM m).y, 0)) ∧
    (∀ (i j : Nat) (m : Pt), GoodP m → i < xs.length → j ≤ ys.length → 20 * (xs.length - (i + 1)) + (ys.length - j) + 1 < k → swashplateref01_Worst.l1 k xs ys m.x m.y m.n m.d i j X Y V =
      some ((((ys.drop j).map (ptRef X Y V (gI xs i)) ++ gridL (xs.drop (i + 1)) ys (ptRef X Y V)).foldl stepM m).x, (((ys.drop j).map (ptRef X Y V (gI xs i)) ++ gridL (xs.drop (i + 1)) ys (ptRef X Y V)).foldl stepM m).y, 0))
  | 0 => ⟨fun _ _ _ _ h => absurd h (Nat.not_lt_zero _), fun _ _ _ _ _ _ h => absurd h (Nat.not_lt_zero _)⟩
  | k + 1 => by
    obtain ⟨ih0, ih1⟩ := rworst_loop ht xs ys hx hy hxl hyl k
    refine ⟨fun i m hm hi hk => ?_, fun i j m hm hi hj hk => ?_⟩
    · simp only [swashplateref01_Worst.l0]
      by_cases hlt : i < xs.length
      · rw [if_pos (by omega)]
        have := ih1 i 0 m hm hlt (Nat.zero_le _) (by omega)
        rw [show ((0 : Nat) : Int) = 0 from rfl, List.drop_zero] at this
        rw [this, drop_step xs i hlt]
        rfl
      · rw [if_neg (by omega), List.drop_of_length_le (by omega)]
        rfl
    · simp only [swashplateref01_Worst.l1]
      by_cases hlt : j < ys.length
      · rw [if_pos (by omega), if_pos (by omega), if_pos (by omega), if_pos (by omega), rd_nat, rd_nat, value_total ht (hx i hi) (hy j hlt), Option.bind_some]
        dsimp only
        have hg := good_ref ht (hx i hi) (hy j hlt)
        rw [rless_total hm hg, Option.bind_some, step64 j (by omega), drop_step ys j hlt, List.map_cons, List.cons_append, List.foldl_cons]
        cases hl : ltP m (ptRef X Y V (gI xs i) (gI ys j)) with
        | true =>
          rw [if_pos rfl, show stepM m (ptRef X Y V (gI xs i) (gI ys j)) = ptRef X Y V (gI xs i) (gI ys j) by unfold stepM; rw [hl]; rfl]
          exact ih1 i (j + 1) _ hg hi (by omega) (by omega)
        | false =>
          rw [if_neg (by simp), show stepM m (ptRef X Y V (gI xs i) (gI ys j)) = m by unfold stepM; rw [hl]; rfl]
          exact ih1 i (j + 1) _ hm hi (by omega) (by omega)
      · rw [if_neg (by omega), List.drop_of_length_le (by omega), List.map_nil, List.nil_append, step64 i (by omega)]
        exact ih0 (i + 1) m hm (by omega) (by omega)
theorem rworst_total (X Y : List Int) (V : List (List Int)) (hx : X.length ≤ 15) (hy : Y.length ≤ 15) (hv : V.length ≤ 15) (hr : ∀ r ∈ V, r.length ≤ 15) (a0 a1 b0 b1 : Int) (k : Nat) (hk : 700 < k) :
    swashplateref01_Worst.f k X Y V a0 a1 b0 b1 = some (worstR X Y V a0 a1 b0 b1) := by
  unfold swashplateref01_Worst.f worstR
  rw [cb_total X Y V hx hy hv hr a0 a1 b0 b1 k hk, Option.bind_some]
  by_cases he : pointsE X Y V a0 a1 b0 b1 = 0
  · have h := box2_of ((points_iff X Y V a0 a1 b0 b1).1 he)
    have t := tb_of h.tab
    have p0 := stops_pos X a0 a1
    have p1 := stops_pos Y b0 b1
    have g0 : rd (stopsL X a0 a1) 0 = a0 := rfl
    have g1 : rd (stopsL Y b0 b1) 0 = b0 := rfl
    have ex : ∀ i, i < (stopsL X a0 a1).length → onB X (gI (stopsL X a0 a1) i) (gI (stopsL X a0 a1) i) = true := fun i hi => (h.stx (gI_mem _ _ hi)).1
    have ey : ∀ j, j < (stopsL Y b0 b1).length → onB Y (gI (stopsL Y b0 b1) j) (gI (stopsL Y b0 b1) j) = true := fun j hj => (h.sty (gI_mem _ _ hj)).1
    have ex0 : onB X a0 a0 = true := ex 0 p0
    have ey0 : onB Y b0 b0 = true := ey 0 p1
    rw [if_pos he, if_pos he, rcorners_total X t.ax.most a0 a1 k (by omega), Option.bind_some, rcorners_total Y t.ay.most b0 b1 k (by omega), Option.bind_some, if_pos (by omega), if_pos (by omega), g0, g1, value_total h.tab ex0 ey0, Option.bind_some]
    dsimp only
    have hl := (rworst_loop h.tab (stopsL X a0 a1) (stopsL Y b0 b1) ex ey (stops_len t.ax.most a0 a1) (stops_len t.ay.most b0 b1) k).1 0 (ptRef X Y V a0 b0) (good_ref h.tab ex0 ey0) (Nat.zero_le _) (by have := stops_len t.ax.most a0 a1; omega)
    rw [List.drop_zero] at hl
    have hs := h.most_same
    rw [hs.x, hs.y]
    exact hl
  · rw [if_neg he, if_neg he]
end Go.Proofs.Yteodlmgmmpkpoaa.PS
end
