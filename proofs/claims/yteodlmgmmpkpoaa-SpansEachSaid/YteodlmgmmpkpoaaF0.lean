/-
Proved: 'swashplatelaw01.SpansEach' returns true for any two spans and any four numbers, and leaves its arguments as they are.
-/
import Derived.Test.YteodlmgmmpkpoaaE2
section
namespace Go.Proofs.Yteodlmgmmpkpoaa.PS
open Go.RowKit Go.Proofs.YteodlmgmmpkpoaaW.PrintWords Go.Proofs.YteodlmgmmpkpoaaW.PrintLast Go.Proofs.YteodlmgmmpkpoaaW.PrintMore
set_option linter.unusedVariables false
theorem from_total (a b c : Int) : swashplateref01_From.f a b c = some (decide (b ≤ a) && decide (a ≤ c)) := by
  unfold swashplateref01_From.f
  by_cases h : a ≥ b
  · rw [if_pos h]; simp [show b ≤ a from h]
  · rw [if_neg h]; simp [show ¬ b ≤ a from h]
theorem rvalid_total (a b : Int) : swashplateref01_Valid.f a b = some (okS a b) := by
  unfold swashplateref01_Valid.f okS
  rw [from_total, Option.bind_some]
  by_cases h : (decide (-1000000 ≤ a) && decide (a ≤ 1000000)) = true
  · rw [if_pos h, from_total, Option.bind_some]
    simp only [Bool.and_eq_true, decide_eq_true_eq] at h
    congr 1
    rw [Bool.eq_iff_iff]
    simp
    omega
  · rw [if_neg h]
    simp only [Bool.and_eq_true, decide_eq_true_eq] at h
    congr 1
    symm
    rw [Bool.eq_false_iff]
    intro h2
    simp at h2
    omega
end Go.Proofs.Yteodlmgmmpkpoaa.PS
end
section
namespace Go.Proofs.Yteodlmgmmpkpoaa.PS
open Go.RowKit Go.Proofs.YteodlmgmmpkpoaaW.PrintWords Go.Proofs.YteodlmgmmpkpoaaW.PrintLast Go.Proofs.YteodlmgmmpkpoaaW.PrintMore
attribute [local go_sem] max2_int min2_int max_two min_two max_three min_three max_four min_four   -- for this text's walks alone
set_option linter.unusedVariables false
set_option linter.unusedSimpArgs false
def swashplateref01_two.f (a0_0 : Int) (a0_1 : Int) (a1_0 : Int) (a1_1 : Int) : Option (Int) := (swashplateref01_Valid.f a0_0 a0_1).bind fun t364 => (if t364 = true then ((swashplateref01_Valid.f a1_0 a1_1).bind fun t365 => (if t365 = true then (some 0) else (some 10))) else (some 10))
end Go.Proofs.Yteodlmgmmpkpoaa.PS
end
section
namespace Go.Proofs.Yteodlmgmmpkpoaa.PS
open Go.RowKit Go.Proofs.YteodlmgmmpkpoaaW.PrintWords Go.Proofs.YteodlmgmmpkpoaaW.PrintLast Go.Proofs.YteodlmgmmpkpoaaW.PrintMore
set_option linter.unusedVariables false
theorem two_total (a0 a1 b0 b1 : Int) : swashplateref01_two.f a0 a1 b0 b1 = some (if okS a0 a1 && okS b0 b1 then 0 else 10) := by
  unfold swashplateref01_two.f
  rw [rvalid_total, Option.bind_some]
  cases okS a0 a1 with
  | false => rw [if_neg (by simp)]; rfl
  | true =>
    rw [if_pos rfl, rvalid_total, Option.bind_some]
    cases okS b0 b1 with
    | false => rw [if_neg (by simp)]; rfl
    | true => rw [if_pos rfl]; rfl
theorem spanned2 (a0 a1 b0 b1 : Int) : spans_spanned.f [⟨a0, a1⟩, ⟨b0, b1⟩] = some (if okS a0 a1 && okS b0 b1 then 0 else 10) := by
  unfold spans_spanned.f
  simp only [List.all_cons, List.all_nil, Bool.and_true]
end Go.Proofs.Yteodlmgmmpkpoaa.PS
end
section
namespace Go.Proofs.Yteodlmgmmpkpoaa.PS
open Go.RowKit Go.Proofs.YteodlmgmmpkpoaaW.PrintWords Go.Proofs.YteodlmgmmpkpoaaW.PrintLast Go.Proofs.YteodlmgmmpkpoaaW.PrintMore
set_option linter.unusedVariables false
theorem ceil_total (a b : Int) (hb : 0 < b) (h0 : -4000000000000000000 ≤ a) (h1 : a ≤ 4000000000000000000) : spans_ceil.f a b = some (-((-a) / b)) := by
  unfold spans_ceil.f
  rw [wr64 (by omega) (by omega), floor_total _ _ hb (by omega) (by omega), Option.bind_some]
  have hq := ediv_bd (a := -a) hb (B := 4000000000000000000) (by omega) (by omega) (by decide)
  rw [wr64 (by omega) (by omega)]
end Go.Proofs.Yteodlmgmmpkpoaa.PS
end
section
namespace Go.Proofs.Yteodlmgmmpkpoaa.PS
open Go.RowKit Go.Proofs.YteodlmgmmpkpoaaW.PrintWords Go.Proofs.YteodlmgmmpkpoaaW.PrintLast Go.Proofs.YteodlmgmmpkpoaaW.PrintMore
attribute [local go_sem] max2_int min2_int max_two min_two max_three min_three max_four min_four   -- for this text's walks alone
set_option linter.unusedVariables false
set_option linter.unusedSimpArgs false
def swashplateref01_made.f (a0_0 : Int) (a0_1 : Int) : Option (Int × Int × Int) := (swashplateref01_Valid.f a0_0 a0_1).bind fun t1006 => (if t1006 = true then (some (a0_0, a0_1, 0)) else (some (0, 0, 2)))
end Go.Proofs.Yteodlmgmmpkpoaa.PS
end
section
namespace Go.Proofs.Yteodlmgmmpkpoaa.PS
open Go.RowKit Go.Proofs.YteodlmgmmpkpoaaW.PrintWords Go.Proofs.YteodlmgmmpkpoaaW.PrintLast Go.Proofs.YteodlmgmmpkpoaaW.PrintMore
attribute [local go_sem] max2_int min2_int max_two min_two max_three min_three max_four min_four   -- for this text's walks alone
set_option linter.unusedVariables false
set_option linter.unusedSimpArgs false
def swashplateref01_Times.f (a0_0 : Int) (a0_1 : Int) (a1_0 : Int) (a1_1 : Int) : Option (Int × Int × Int) := (swashplateref01_two.f a0_0 a0_1 a1_0 a1_1).bind fun t1023 => (if t1023 = 0 then ((swashplateref01_made.f (mn (mn (mn (wrap64 (a0_0 * a1_0)) (wrap64 (a0_0 * a1_1))) (wrap64 (a0_1 * a1_0))) (wrap64 (a0_1 * a1_1))) (mx (mx (mx (wrap64 (a0_0 * a1_0)) (wrap64 (a0_0 * a1_1))) (wrap64 (a0_1 * a1_0))) (wrap64 (a0_1 * a1_1)))).bind fun bt1024 => (some (bt1024.1, bt1024.2.1, bt1024.2.2))) else (some (0, 0, t1023)))
end Go.Proofs.Yteodlmgmmpkpoaa.PS
end
section
namespace Go.Proofs.Yteodlmgmmpkpoaa.PS
open Go.RowKit Go.Proofs.YteodlmgmmpkpoaaW.PrintWords Go.Proofs.YteodlmgmmpkpoaaW.PrintLast Go.Proofs.YteodlmgmmpkpoaaW.PrintMore
set_option linter.unusedVariables false
def madeT (a b : Int) : Int × Int × Int := if okS a b then (a, b, 0) else (0, 0, 2)
theorem rmade_total (a b : Int) : swashplateref01_made.f a b = some (madeT a b) := by
  unfold swashplateref01_made.f madeT
  rw [rvalid_total, Option.bind_some]
  cases okS a b <;> rfl
theorem made_totalT (a b : Int) : spans_made.f a b = some (madeT a b) := made_total a b
theorem times_pure (a0 a1 b0 b1 : Int) : ∃ r1 r2 r3, spans_Times.f a0 a1 b0 b1 = some (r1, r2, r3) ∧ swashplateref01_Times.f a0 a1 b0 b1 = some (r1, r2, r3) := by
  cases hk : (okS a0 a1 && okS b0 b1) with
  | false =>
    refine ⟨0, 0, 10, ?_, ?_⟩
    · unfold spans_Times.f; rw [hk]; rfl
    · unfold swashplateref01_Times.f; rw [two_total, hk]; rfl
  | true =>
    have hh := hk
    simp only [okS, Bool.and_eq_true, decide_eq_true_eq] at hh
    have e1 := small_mul (a := a0) (b := b0) (by omega) (by omega) (by omega) (by omega)
    have e2 := small_mul (a := a0) (b := b1) (by omega) (by omega) (by omega) (by omega)
    have e3 := small_mul (a := a1) (b := b0) (by omega) (by omega) (by omega) (by omega)
    have e4 := small_mul (a := a1) (b := b1) (by omega) (by omega) (by omega) (by omega)
    have m1 : mn (mn (mn (a0 * b0) (a0 * b1)) (a1 * b0)) (a1 * b1) = min (min (a0 * b0) (a0 * b1)) (min (a1 * b0) (a1 * b1)) := times_min _ _ _ _
    have m2 : mx (mx (mx (a0 * b0) (a0 * b1)) (a1 * b0)) (a1 * b1) = max (max (a0 * b0) (a0 * b1)) (max (a1 * b0) (a1 * b1)) := times_max _ _ _ _
    obtain ⟨m, hm⟩ : ∃ m, min (min (a0 * b0) (a0 * b1)) (min (a1 * b0) (a1 * b1)) = m := ⟨_, rfl⟩
    obtain ⟨n, hn⟩ : ∃ n, max (max (a0 * b0) (a0 * b1)) (max (a1 * b0) (a1 * b1)) = n := ⟨_, rfl⟩
    refine ⟨(madeT m n).1, (madeT m n).2.1, (madeT m n).2.2, ?_, ?_⟩
    · unfold spans_Times.f; rw [hk, if_pos rfl, hm, hn]; rfl
    · unfold swashplateref01_Times.f
      rw [two_total, hk, if_pos rfl, Option.bind_some, if_pos rfl, wr64 (n := a0 * b0) (by omega) (by omega), wr64 (n := a0 * b1) (by omega) (by omega), wr64 (n := a1 * b0) (by omega) (by omega), wr64 (n := a1 * b1) (by omega) (by omega), m1, m2, hm, hn, rmade_total]
      rfl
theorem spanned1 (a0 a1 : Int) : spans_spanned.f [⟨a0, a1⟩] = some (if okS a0 a1 then 0 else 10) := by
  unfold spans_spanned.f
  simp only [List.all_cons, List.all_nil, Bool.and_true]
end Go.Proofs.Yteodlmgmmpkpoaa.PS
end
section
namespace Go.Proofs.Yteodlmgmmpkpoaa.PS
open Go.RowKit Go.Proofs.YteodlmgmmpkpoaaW.PrintWords Go.Proofs.YteodlmgmmpkpoaaW.PrintLast Go.Proofs.YteodlmgmmpkpoaaW.PrintMore
set_option linter.unusedVariables false
theorem tmod_bd (n d : Int) (hd : 0 < d) : -d < Int.tmod n d ∧ Int.tmod n d < d := by
  have h1 := Int.emod_nonneg n (show d ≠ 0 by omega)
  have h2 := Int.emod_lt_of_pos n hd
  rw [Int.tmod_eq_emod]
  split <;> omega
theorem tmod_nn (n d : Int) (hd : 0 < d) (hn : 0 ≤ n) : 0 ≤ Int.tmod n d ∧ Int.tmod n d < d := by
  rw [Int.tmod_eq_emod_of_nonneg hn]
  exact ⟨Int.emod_nonneg n (by omega), Int.emod_lt_of_pos n hd⟩
theorem into_total (n lo hi : Int) (h1 : -1000000 ≤ lo) (h2 : lo ≤ hi) (h3 : hi ≤ 1000000) : ∃ x, swashplatelaw01_within.f n lo hi = some x ∧ lo ≤ x ∧ x ≤ hi := by
  unfold swashplatelaw01_within.f
  rw [wr64 (n := hi - lo) (by omega) (by omega), wr64 (n := hi - lo + 1) (by omega) (by omega), if_neg (by omega)]
  have t1 := tmod_bd n (hi - lo + 1) (by omega)
  obtain ⟨m, hm⟩ : ∃ m, Int.tmod n (hi - lo + 1) = m := ⟨_, rfl⟩
  rw [hm] at t1 ⊢
  rw [wr64 (n := m + (hi - lo + 1)) (by omega) (by omega)]
  have t2 := tmod_nn (m + (hi - lo + 1)) (hi - lo + 1) (by omega) (by omega)
  obtain ⟨q, hq⟩ : ∃ q, Int.tmod (m + (hi - lo + 1)) (hi - lo + 1) = q := ⟨_, rfl⟩
  rw [hq] at t2 ⊢
  rw [wr64 (n := lo + q) (by omega) (by omega)]
  exact ⟨_, rfl, by omega, by omega⟩
theorem mul_between (c lo hi y : Int) (h1 : lo ≤ y) (h2 : y ≤ hi) : min (c * lo) (c * hi) ≤ c * y ∧ c * y ≤ max (c * lo) (c * hi) := by
  rcases Int.le_total 0 c with h | h
  · have e1 := Int.mul_le_mul_of_nonneg_left h1 h
    have e2 := Int.mul_le_mul_of_nonneg_left h2 h
    omega
  · have e1 := Int.mul_le_mul_of_nonpos_left h h1
    have e2 := Int.mul_le_mul_of_nonpos_left h h2
    omega
theorem prod_between (a0 a1 b0 b1 x y : Int) (h1 : a0 ≤ x) (h2 : x ≤ a1) (h3 : b0 ≤ y) (h4 : y ≤ b1) :
    min (min (a0 * b0) (a0 * b1)) (min (a1 * b0) (a1 * b1)) ≤ x * y ∧ x * y ≤ max (max (a0 * b0) (a0 * b1)) (max (a1 * b0) (a1 * b1)) := by
  have e1 := mul_between y a0 a1 x h1 h2
  have e2 := mul_between a0 b0 b1 y h3 h4
  have e3 := mul_between a1 b0 b1 y h3 h4
  rw [Int.mul_comm y x, Int.mul_comm y a0, Int.mul_comm y a1] at e1
  omega
theorem part_val (k : Nat) (a0 a1 n d : Int) (hk : okS a0 a1 = true) (h1 : 0 ≤ n) (h2 : n ≤ 1000) (h3 : 1 ≤ d) (h4 : d ≤ 1000) : spans_Part.f (k + 1) a0 a1 n d = some (madeT (a0 * n / d) (-(-(a1 * n) / d))) := by
  unfold spans_Part.f
  have hh := hk
  simp only [okS, Bool.and_eq_true, decide_eq_true_eq] at hh
  have e1 := small_mul (a := a0) (b := n) (by omega) (by omega) (by omega) (by omega)
  have e2 := small_mul (a := a1) (b := n) (by omega) (by omega) (by omega) (by omega)
  have hn : (decide (0 ≤ n) && decide (n ≤ 1000)) = true := by simp [h1, h2]
  have hd : (decide (1 ≤ d) && decide (d ≤ 1000)) = true := by simp [h3, h4]
  rw [spanned1, hk, if_pos rfl, Option.bind_some, if_pos rfl, within_total, hn, Option.bind_some, if_pos rfl, within_total, hd, Option.bind_some]
  simp only [spans_Part.j0]
  rw [wr64 (n := a0 * n) (by omega) (by omega), wr64 (n := a1 * n) (by omega) (by omega), floor_total _ _ (by omega) (by omega) (by omega), ceil_total _ _ (by omega) (by omega) (by omega)]
  rw [if_neg (by simp), Option.bind_some, Option.bind_some, made_totalT]
  rfl
theorem each_true (a0 a1 b0 b1 n0 n1 n2 n3 : Int) : swashplatelaw01_SpansEach.f 200 a0 a1 b0 b1 n0 n1 n2 n3 = some true := by
  have hj : ∀ x, swashplatelaw01_SpansEach.j0 200 x a0 a1 b0 b1 n0 n1 n2 n3 = swashplatelaw01_SpansEach.j0 (199 + 1) x a0 a1 b0 b1 n0 n1 n2 n3 := fun _ => rfl
  have hw : (swashplatelaw01_works.f 199).bind (fun t => some t) = some true := by rw [works_at 199 (by omega)]; rfl
  unfold swashplatelaw01_SpansEach.f
  rw [rvalid_total, Option.bind_some]
  cases ha : okS a0 a1 with
  | false => rw [if_neg (by simp), hj]; simp only [swashplatelaw01_SpansEach.j0]; rw [if_pos trivial]; exact hw
  | true =>
    rw [if_pos rfl, rvalid_total, Option.bind_some]
    cases hb : okS b0 b1 with
    | false => rw [hj]; simp only [swashplatelaw01_SpansEach.j0]; rw [if_pos (by simp)]; exact hw
    | true =>
      rw [hj]
      have ha' := ha
      have hb' := hb
      simp only [okS, Bool.and_eq_true, decide_eq_true_eq] at ha' hb'
      obtain ⟨x, hx, x0, x1⟩ := into_total n0 a0 a1 (by omega) (by omega) (by omega)
      obtain ⟨y, hy, y0, y1⟩ := into_total n1 b0 b1 (by omega) (by omega) (by omega)
      obtain ⟨u, hu, u0, u1⟩ := into_total n2 0 1000 (by omega) (by omega) (by omega)
      obtain ⟨v, hv, v0, v1⟩ := into_total n3 1 1000 (by omega) (by omega) (by omega)
      have p1 := small_mul (a := x) (b := y) (by omega) (by omega) (by omega) (by omega)
      have q1 := small_mul (a := a0) (b := b0) (by omega) (by omega) (by omega) (by omega)
      have q2 := small_mul (a := a0) (b := b1) (by omega) (by omega) (by omega) (by omega)
      have q3 := small_mul (a := a1) (b := b0) (by omega) (by omega) (by omega) (by omega)
      have q4 := small_mul (a := a1) (b := b1) (by omega) (by omega) (by omega) (by omega)
      have pb := prod_between a0 a1 b0 b1 x y x0 x1 y0 y1
      have hj2 : swashplatelaw01_SpansEach.j2 198 x false a0 a1 n0 n1 n2 n3 = some true := by
        show swashplatelaw01_SpansEach.j2 (197 + 1) x false a0 a1 n0 n1 n2 n3 = some true
        simp only [swashplatelaw01_SpansEach.j2]
        have hw2 : (swashplatelaw01_works.f 197).bind (fun t => some t) = some true := by rw [works_at 197 (by omega)]; rfl
        have e0 := small_mul (a := a0) (b := u) (by omega) (by omega) (by omega) (by omega)
        have e1 := small_mul (a := a1) (b := u) (by omega) (by omega) (by omega) (by omega)
        have e2 := small_mul (a := x) (b := u) (by omega) (by omega) (by omega) (by omega)
        have m0 : a0 * u ≤ x * u := Int.mul_le_mul_of_nonneg_right x0 u0
        have m1 : x * u ≤ a1 * u := Int.mul_le_mul_of_nonneg_right x1 u0
        rw [if_neg (by simp), hu, Option.bind_some, hv, Option.bind_some, part_val 196 a0 a1 u v ha u0 u1 v0 v1, Option.bind_some]
        have f1 : a0 * u / v * v ≤ a0 * u := Int.ediv_mul_le _ (by omega)
        have f2 : -(a1 * u) / v * v ≤ -(a1 * u) := Int.ediv_mul_le _ (by omega)
        obtain ⟨m, hm⟩ : ∃ m, a0 * u / v = m := ⟨_, rfl⟩
        obtain ⟨k, hk⟩ : ∃ k, -(a1 * u) / v = k := ⟨_, rfl⟩
        rw [hm] at f1 ⊢
        rw [hk] at f2 ⊢
        unfold madeT
        cases hs : okS m (-k) with
        | false =>
          rw [if_neg (by simp)]
          exact hw2
        | true =>
          have hs' := hs
          simp only [okS, Bool.and_eq_true, decide_eq_true_eq] at hs'
          have g1 := small_mul (a := m) (b := v) (by omega) (by omega) (by omega) (by omega)
          have g2 := small_mul (a := -k) (b := v) (by omega) (by omega) (by omega) (by omega)
          have g3 : -k * v = -(k * v) := Int.neg_mul _ _
          rw [if_pos rfl]
          dsimp only
          rw [if_pos rfl, wr64 (n := m * v) (by omega) (by omega), wr64 (n := x * u) (by omega) (by omega), wr64 (n := -k * v) (by omega) (by omega), if_pos (by omega), if_pos (by omega)]
          exact hw2
      have hj1 : ∀ T0 T1 TE, spans_Times.f a0 a1 b0 b1 = some (T0, T1, TE) → swashplatelaw01_SpansEach.j1 199 x y TE false a0 a1 b0 b1 n0 n1 n2 n3 T0 T1 = some true := by
        intro T0 T1 TE ht
        show swashplatelaw01_SpansEach.j1 (198 + 1) x y TE false a0 a1 b0 b1 n0 n1 n2 n3 T0 T1 = some true
        simp only [swashplatelaw01_SpansEach.j1]
        unfold spans_Times.f at ht
        rw [ha, hb] at ht
        simp only [Bool.and_self, if_true, Option.some.injEq] at ht
        rw [if_neg (by simp)]
        by_cases hs : okS (min (min (a0 * b0) (a0 * b1)) (min (a1 * b0) (a1 * b1))) (max (max (a0 * b0) (a0 * b1)) (max (a1 * b0) (a1 * b1))) = true
        · rw [if_pos hs] at ht
          simp only [Prod.mk.injEq] at ht
          obtain ⟨t1, t2, t3⟩ := ht
          have pr : ∀ T, (T = a0 * b0 ∨ T = a0 * b1 ∨ T = a1 * b0 ∨ T = a1 * b1) → swashplatelaw01_product.f T a0 a1 b0 b1 = some true := by
            intro T hT
            unfold swashplatelaw01_product.f
            rw [wr64 (n := a0 * b0) (by omega) (by omega), wr64 (n := a0 * b1) (by omega) (by omega), wr64 (n := a1 * b0) (by omega) (by omega), wr64 (n := a1 * b1) (by omega) (by omega)]
            by_cases c1 : T = a0 * b0
            · rw [if_pos c1]
            · rw [if_neg c1]
              by_cases c2 : T = a0 * b1
              · rw [if_pos c2]
              · rw [if_neg c2]
                by_cases c3 : T = a1 * b0
                · rw [if_pos c3]
                · rw [if_neg c3]
                  have c4 : T = a1 * b1 := by omega
                  rw [c4]; simp
          rw [if_pos t3.symm, wr64 (n := x * y) (by omega) (by omega), if_neg (by omega), if_neg (by omega), pr T0 (by omega), Option.bind_some, if_pos rfl, pr T1 (by omega), Option.bind_some, if_pos rfl]
          exact hj2
        · rw [if_neg hs] at ht
          simp only [Prod.mk.injEq] at ht
          obtain ⟨t1, t2, t3⟩ := ht
          subst t3
          rw [if_neg (by decide)]
          exact hj2
      simp only [swashplatelaw01_SpansEach.j0]
      rw [if_neg (by simp), hx, Option.bind_some, hy, Option.bind_some]
      obtain ⟨T0, T1, TE, ht, _⟩ := times_pure a0 a1 b0 b1
      have hadd : spans_Add.f a0 a1 b0 b1 = some (madeT (a0 + b0) (a1 + b1)) := by
        unfold spans_Add.f
        rw [spanned2, ha, hb]
        rw [if_pos (by rfl), Option.bind_some, if_pos rfl, made_totalT, wr64 (n := a0 + b0) (by omega) (by omega), wr64 (n := a1 + b1) (by omega) (by omega)]
        rfl
      have h1 := hj1 T0 T1 TE ht
      rw [hadd, Option.bind_some, ht, Option.bind_some]
      unfold madeT
      cases hs : okS (a0 + b0) (a1 + b1) with
      | false =>
        rw [if_neg (by simp)]
        exact h1
      | true =>
        rw [if_pos rfl]
        dsimp only
        rw [if_pos rfl, wr64 (n := x + y) (by omega) (by omega), if_neg (by omega), if_neg (by omega), wr64 (n := a0 + b0) (by omega) (by omega), wr64 (n := a1 + b1) (by omega) (by omega), if_pos rfl, if_pos rfl]
        exact h1
end Go.Proofs.Yteodlmgmmpkpoaa.PS
end
section
namespace Go.Proofs.Yteodlmgmmpkpoaa.PS
open Go.RowKit Go.Deep Go.ChangeShapes Go.WideShapes Go.ChangeAt Go.Proofs.YteodlmgmmpkpoaaW.PrintWords
set_option linter.unusedVariables false
section
variable {H : Type} {enc : TypeId × Value → H} {w : World} {base : Nat} {held : Bool} {v : Value} {d : DataW H} {ps : List MemPlace} {r : Reach} {b0 : Nat}
set_option maxRecDepth 100000 in
theorem arg27 (hv : Value.okWide Try.prog w r b0 27 v) (h : DataW.Trod enc Try.prog w base (fun _ => true) held 27 v d ps) :
    ∃ x y : Int, v = .agg #[.int .i64 x, .int .i64 y] ∧ wfI x ∧ wfI y := by
  obtain ⟨cs, rfl, hsz⟩ := okWide_struct Try.underlying27 hv
  obtain ⟨c0, c1, rfl⟩ : ∃ a b, cs = #[a, b] := by
    have hs : cs.toList.length = 2 := hsz.trans (by kernel_rfl)
    match h : cs.toList, hs with
    | [a, b], _ => exact ⟨a, b, by rw [← Array.toArray_toList (xs := cs), h]⟩
  obtain ⟨fuel, hf⟩ := h
  obtain ⟨s, hs, h1, h2⟩ := opn27.2 H enc w base held fuel _ _ hf
  have e := k27_open hs
  simp only [Value.cells, List.cons.injEq, and_true] at e
  obtain ⟨rfl, rfl⟩ := e
  exact ⟨s.f0, s.f1, rfl, h1, h2⟩
end
end Go.Proofs.Yteodlmgmmpkpoaa.PS
end
section
namespace Go.Proofs.Yteodlmgmmpkpoaa.PS
open Go.RowKit Go.Deep Go.ChangeShapes Go.WideShapes Go.ChangeAt Go.Proofs.YteodlmgmmpkpoaaW.PrintWords
set_option linter.unusedVariables false
section
variable {H : Type} {enc : TypeId × Value → H} {w : World} {base : Nat} {held : Bool} {v : Value} {d : DataW H} {ps : List MemPlace} {r : Reach} {b0 : Nat}
set_option maxRecDepth 100000 in
theorem arg92 (hv : Value.okWide Try.prog w r b0 92 v) (h : DataW.Trod enc Try.prog w base (fun _ => true) held 92 v d ps) :
    ∃ x y z u : Int, v = .agg #[.int .i64 x, .int .i64 y, .int .i64 z, .int .i64 u] := by
  have hv' := hv
  unfold Value.okWide at hv'
  rw [Try.underlying92] at hv'
  obtain ⟨cs, rfl, hsz, _⟩ := hv'
  obtain ⟨c0, c1, c2, c3, rfl⟩ : ∃ a b c e, cs = #[a, b, c, e] := by
    have hs : cs.toList.length = 4 := hsz.trans (by kernel_rfl)
    match h : cs.toList, hs with
    | [a, b, c, e], _ => exact ⟨a, b, c, e, by rw [← Array.toArray_toList (xs := cs), h]⟩
  obtain ⟨fuel, hf⟩ := h
  obtain ⟨xs, m, _, _, _, hl, hx⟩ := DataW.trod_array Try.underlying92 hf
  have e3 : Try.prog.cellsOf 3 = 1 := by kernel_rfl
  have h0 := hx 0 (by omega)
  have h1 := hx 1 (by omega)
  have h2 := hx 2 (by omega)
  have h3 := hx 3 (by omega)
  match xs, hl with
  | [y0, y1, y2, y3], _ =>
    simp only [e3, Value.cells, Nat.zero_mul, Nat.one_mul, Nat.reduceMul, List.drop_zero, List.drop_succ_cons, List.take_succ_cons, List.take_zero, List.getElem?_cons_zero, List.getElem?_cons_succ] at h0 h1 h2 h3
    obtain ⟨x, hx0, _, _⟩ := DataW.trod_int Try.underlying3 h0
    obtain ⟨y, hy0, _, _⟩ := DataW.trod_int Try.underlying3 h1
    obtain ⟨z, hz0, _, _⟩ := DataW.trod_int Try.underlying3 h2
    obtain ⟨u, hu0, _, _⟩ := DataW.trod_int Try.underlying3 h3
    simp only [List.cons.injEq, and_true] at hx0 hy0 hz0 hu0
    subst hx0 hy0 hz0 hu0
    exact ⟨x, y, z, u, rfl⟩
end
set_option maxRecDepth 100000 in
theorem liftedEach (os : Os) (started : os.Started) (H : Type) (enc : TypeId × Value → H) :
    ReturnsInHanded {} Try.checked os 12 .any (Rows.spansEachSpec.pre6 enc Try.prog Try.f12 Rows.spansEachRow.domain false) (Rows.spansEachSpec.post enc Try.prog Try.f12 false true false false) := by
  refine returnsInHanded_of_change (C := Try.checked) ownNone started (by kernel_rfl) Try.func12
    (ChangeSpec.witness6 (enc := enc) (C := Try.checked) false ⟨#[], #[.agg #[.int .i64 0, .int .i64 0], .agg #[.int .i64 0, .int .i64 0], .agg #[.int .i64 0, .int .i64 0, .int .i64 0, .int .i64 0]], []⟩ 8 (by kernel_rfl) (by kernel_rfl) (by kernel_rfl) (by kernel_rfl)) ?_
  intro W base args ds gs before hval0 hW hcnd _
  have hval : ∀ (j : Nat) t v, Try.f12.params[j]? = some t → args[j]? = some v → Value.okWide Try.prog W .any base t v := hval0
  have hW' := hW
  obtain ⟨p, q, hA0, hV, rfl, hfz, hnd⟩ := hW
  have hA : DataW.TrodAll enc Try.prog W 0 (fun _ => true) true Try.f12.params.toList args.toList ds p := hA0
  rw [Try.params12] at hA hval
  obtain ⟨v0, vs0, d0, ds0, p0, q0, hargs, rfl, rfl, h0, r0⟩ := trodAll_cons hA
  obtain ⟨v1, vs1, d1, ds1, p1, q1, rfl, rfl, rfl, h1, r1⟩ := trodAll_cons r0
  obtain ⟨v2, vs2, d2, ds2, p2, q2, rfl, rfl, rfl, h2, r2⟩ := trodAll_cons r1
  obtain ⟨rfl, rfl, rfl⟩ := trodAll_nil r2
  obtain rfl : args = #[v0, v1, v2] := by cases args; simp_all
  obtain ⟨rfl, rfl⟩ := trodVars_none hV
  have k0 := h0
  have lt0 : ∀ x ∈ p0, x.block < W.heap.size := by obtain ⟨m, hm⟩ := k0; exact DataW.trod_lt m _ _ _ hm
  have k1 := h1
  have lt1 : ∀ x ∈ p1, x.block < W.heap.size := by obtain ⟨m, hm⟩ := k1; exact DataW.trod_lt m _ _ _ hm
  have k2 := h2
  have lt2 : ∀ x ∈ p2, x.block < W.heap.size := by obtain ⟨m, hm⟩ := k2; exact DataW.trod_lt m _ _ _ hm
  obtain ⟨a0, a1, rfl, _, _⟩ := arg27 (hval 0 27 v0 rfl rfl) h0
  obtain ⟨b0, b1, rfl, _, _⟩ := arg27 (hval 1 27 v1 rfl rfl) h1
  obtain ⟨n0, n1, n2, n3, rfl⟩ := arg92 (hval 2 92 v2 rfl rfl) h2
  clear hA0 hval0
  refine (swashplatelaw01_SpansEach.calls 200 a0 a1 b0 b1 n0 n1 n2 n3 true W (each_true a0 a1 b0 b1 n0 n1 n2 n3)).mono fun e W' ⟨he, bel⟩ => ?_
  subst he
  exact ⟨_, rfl, _, _, _, [], _, [], hW', trodAll_mk1 (shut_bool Try.underlying4 _), (trodAll_cons_mk (Below.trod laidOut (by kernel_rfl) (of_decide_eq_true (by kernel_rfl)) k0 bel lt0) (trodAll_cons_mk (Below.trod laidOut (by kernel_rfl) (of_decide_eq_true (by kernel_rfl)) k1 bel lt1) (trodAll_cons_mk (Below.trod laidOut (by kernel_rfl) (of_decide_eq_true (by kernel_rfl)) k2 bel lt2) trodAll_mk0))), rfl, bel.frame _, fun h => by cases h⟩
theorem factsEach : joinedFacts Try.prog 12 Try.f12 Rows.spansEachSpec Rows.spansEachRow = true := by
  have fk : (Rows.spansEachRow.plainKeys == Try.prog.plainKeys) = true := factKeys
  have fl : (Rows.spansEachRow.lifted == Try.prog.liftsFinal) = true := factLifted
  have fm : (Try.prog.make == some Rows.spansEachRow.make) = true := factMake
  unfold joinedFacts
  repeat' (with_reducible refine Bool.and_eq_true_iff.2 ⟨?_, ?_⟩)
  all_goals first | (with_reducible exact fk) | (with_reducible exact factHeard) | (with_reducible exact factEnter) | (with_reducible exact fl) | (with_reducible exact fm) | kernel_rfl
theorem overEach : Rows.spansEachRow.holds Try.pinned (OpenSpec.ofChange Rows.spansEachSpec) :=
  OpenClaim.holds_of_wide 12 Try.f12 rfl rfl rfl rfl rfl rfl rfl ⟨rfl, rfl, rfl, rfl, rfl⟩ rfl rfl rfl rfl rfl (by kernel_rfl) Try.func12 factsEach
    (of_decide_eq_true (by kernel_rfl)) (by unfold Func.isWrapper; first | (rw [if_pos (by decide +kernel)]; kernel_rfl) | (rw [if_neg (by decide +kernel)]; exact ⟨rfl, rfl⟩))
    (fun os started H enc _ => liftedEach os started H enc)
theorem eachProved : Rows.SpansEachSaid := overEach
#print axioms eachProved
end Go.Proofs.Yteodlmgmmpkpoaa.PS
end
