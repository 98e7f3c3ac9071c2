-- Printed by a program of this session out of the translation (hybrid print) and out of hand proofs. Not trusted: Lean checks it.
import Derived.Test.YteodlmgmmpkpoaaI1
section
namespace Go.Proofs.Yteodlmgmmpkpoaa.PS
open Go.RowKit Go.Proofs.YteodlmgmmpkpoaaW.PrintWords Go.Proofs.YteodlmgmmpkpoaaW.PrintLast Go.Proofs.YteodlmgmmpkpoaaW.PrintMore
set_option linter.unusedVariables false
theorem lin_x (X Y : List Int) (V : List (List Int)) (c e : Nat) (x x' y : Int) : numAt X Y V c e x y - numAt X Y V c e x' y = (x - x') * ((gI Y (e + 1) - y) * (gV V (c + 1) e - gV V c e) + (y - gI Y e) * (gV V (c + 1) (e + 1) - gV V c (e + 1))) := by
  unfold numAt; grind
theorem lin_y (X Y : List Int) (V : List (List Int)) (c e : Nat) (x y y' : Int) : numAt X Y V c e x y - numAt X Y V c e x y' = (y - y') * ((gI X (c + 1) - x) * (gV V c (e + 1) - gV V c e) + (x - gI X c) * (gV V (c + 1) (e + 1) - gV V (c + 1) e)) := by
  unfold numAt; grind
theorem lin_ends {a b x A : Int} (h0 : a ≤ x) (h1 : x ≤ b) : (∃ u, (u = a ∨ u = b) ∧ (x - u) * A ≤ 0) ∧ (∃ u, (u = a ∨ u = b) ∧ 0 ≤ (x - u) * A) := by
  rcases Int.le_total 0 A with h | h
  · exact ⟨⟨b, .inr rfl, Int.mul_nonpos_of_nonpos_of_nonneg (by omega) h⟩, ⟨a, .inl rfl, Int.mul_nonneg (by omega) h⟩⟩
  · exact ⟨⟨a, .inl rfl, Int.mul_nonpos_of_nonneg_of_nonpos (by omega) h⟩, ⟨b, .inr rfl, Int.mul_nonneg_of_nonpos_of_nonpos (by omega) h⟩⟩
theorem stops_around {l : List Int} (h : Ax l) {lo hi x : Int} (h0 : lo ≤ x) (h1 : x ≤ hi) {c : Nat} (s : Spot l x c) :
    ∃ a b, a ≤ x ∧ x ≤ b ∧ a ∈ stopsL l lo hi ∧ b ∈ stopsL l lo hi ∧ Spot l a c ∧ Spot l b c := by
  have s1 := s.lo; have s2 := s.hi; have s3 := s.lt
  have mem : ∀ z, z ∈ stopsL l lo hi ↔ z = lo ∨ ((z ∈ l ∧ lo < z ∧ z < hi) ∨ (lo < hi ∧ z = hi)) := by
    intro z
    unfold stopsL
    simp only [List.cons_append, List.mem_cons, List.mem_append, List.mem_filter, Bool.and_eq_true, decide_eq_true_eq]
    by_cases hlt : lo < hi
    · rw [if_pos hlt]; simp [hlt]
    · rw [if_neg hlt]; simp [hlt]
  have m0 : gI l c ∈ l := gI_mem l c (by omega)
  have m1 : gI l (c + 1) ∈ l := gI_mem l (c + 1) s3
  obtain ⟨a, ha, ha1, ha2⟩ : ∃ a, a ∈ stopsL l lo hi ∧ gI l c ≤ a ∧ a ≤ x := by
    by_cases hc : gI l c ≤ lo
    · exact ⟨lo, (mem _).2 (.inl rfl), hc, h0⟩
    · by_cases hh : gI l c < hi
      · exact ⟨gI l c, (mem _).2 (.inr (.inl ⟨m0, by omega, hh⟩)), Int.le_refl _, s1⟩
      · exact ⟨hi, (mem _).2 (.inr (.inr ⟨by omega, rfl⟩)), by omega, by omega⟩
  obtain ⟨b, hb, hb1, hb2⟩ : ∃ b, b ∈ stopsL l lo hi ∧ b ≤ gI l (c + 1) ∧ x ≤ b := by
    by_cases hc : hi ≤ gI l (c + 1)
    · by_cases hh : lo < hi
      · exact ⟨hi, (mem _).2 (.inr (.inr ⟨hh, rfl⟩)), hc, h1⟩
      · exact ⟨lo, (mem _).2 (.inl rfl), by omega, by omega⟩
    · by_cases hh : lo < gI l (c + 1)
      · exact ⟨gI l (c + 1), (mem _).2 (.inr (.inl ⟨m1, hh, by omega⟩)), Int.le_refl _, s2⟩
      · exact ⟨lo, (mem _).2 (.inl rfl), by omega, by omega⟩
  exact ⟨a, b, ha2, hb2, ha, hb, ⟨s3, ha1, by omega⟩, ⟨s3, by omega, hb1⟩⟩
section
variable {X Y : List Int} {V : List (List Int)} {a0 a1 b0 b1 : Int}
theorem ptsL_mem (X Y : List Int) (V : List (List Int)) {a0 a1 b0 b1 x y : Int} (hx : x ∈ stopsL X a0 a1) (hy : y ∈ stopsL Y b0 b1) : ptAt X Y V x y ∈ ptsL X Y V a0 a1 b0 b1 := by
  unfold ptsL gridL
  rw [List.mem_flatMap]
  exact ⟨x, hx, List.mem_map.2 ⟨y, hy, rfl⟩⟩
theorem ce_mono {n d n' d' : Int} (hd : 0 < d) (hd' : 0 < d') (h : n * d' ≤ n' * d) : -((-n) / d) ≤ -((-n') / d') := by
  have := fl_mono (n := -n') (n' := -n) hd' hd (by rw [Int.neg_mul, Int.neg_mul]; omega)
  omega
theorem on_mid {l : List Int} {lo hi x : Int} (h : onB l lo hi = true) (h0 : lo ≤ x) (h1 : x ≤ hi) : onB l x x = true := by
  rw [onB_iff] at h ⊢; omega
theorem Box2.between (h : Box2 X Y V a0 a1 b0 b1) {x y : Int} (hx0 : a0 ≤ x) (hx1 : x ≤ a1) (hy0 : b0 ≤ y) (hy1 : y ≤ b1) :
    (∃ q ∈ ptsL X Y V a0 a1 b0 b1, ceP (ptAt X Y V x y) ≤ ceP q) ∧ (∃ q ∈ ptsL X Y V a0 a1 b0 b1, flP q ≤ flP (ptAt X Y V x y)) := by
  have t := tb_of h.tab
  have ox := on_mid h.onx hx0 hx1
  have oy := on_mid h.ony hy0 hy1
  have sx := cell_spot t.ax ox
  have sy := cell_spot t.ay oy
  have hpd : 0 < denAt X Y (cellOf X x) (cellOf Y y) := den_pos t.ax t.ay sx.lt sy.lt
  generalize hc : cellOf X x = c at sx hpd
  generalize he : cellOf Y y = e at sy hpd
  obtain ⟨s, s', l1, l2, m1, m2, p1, p2⟩ := stops_around t.ax hx0 hx1 sx
  obtain ⟨u, u', l3, l4, m3, m4, p3, p4⟩ := stops_around t.ay hy0 hy1 sy
  have same : ∀ a b, (a = s ∨ a = s') → (b = u ∨ b = u') → ptAt X Y V a b ∈ ptsL X Y V a0 a1 b0 b1 ∧
      (flP (ptAt X Y V a b) = numAt X Y V c e a b / denAt X Y c e ∧ ceP (ptAt X Y V a b) = -((-(numAt X Y V c e a b)) / denAt X Y c e)) := by
    intro a b ha hb
    have ma : a ∈ stopsL X a0 a1 := by rcases ha with rfl | rfl; exact m1; exact m2
    have mb : b ∈ stopsL Y b0 b1 := by rcases hb with rfl | rfl; exact m3; exact m4
    have sa : Spot X a c := by rcases ha with rfl | rfl; exact p1; exact p2
    have sb : Spot Y b e := by rcases hb with rfl | rfl; exact p3; exact p4
    have oa := (h.stx ma).1
    have ob := (h.sty mb).1
    have qa := cell_spot t.ax oa
    have qb := cell_spot t.ay ob
    exact ⟨ptsL_mem X Y V ma mb, fl_ce_eq (den_pos t.ax t.ay qa.lt qb.lt) hpd (frac_eq t.ax t.ay qa sa qb sb)⟩
  have vx : flP (ptAt X Y V x y) = numAt X Y V c e x y / denAt X Y c e ∧ ceP (ptAt X Y V x y) = -((-(numAt X Y V c e x y)) / denAt X Y c e) := by
    unfold flP ceP ptAt; rw [hc, he]; exact ⟨rfl, rfl⟩
  obtain ⟨⟨i, hi, hi2⟩, ⟨i', hi', hi2'⟩⟩ := lin_ends (A := (gI Y (e + 1) - y) * (gV V (c + 1) e - gV V c e) + (y - gI Y e) * (gV V (c + 1) (e + 1) - gV V c (e + 1))) l1 l2
  rw [← lin_x X Y V c e] at hi2 hi2'
  obtain ⟨⟨j, hj, hj2⟩, _⟩ := lin_ends (A := (gI X (c + 1) - i) * (gV V c (e + 1) - gV V c e) + (i - gI X c) * (gV V (c + 1) (e + 1) - gV V (c + 1) e)) l3 l4
  obtain ⟨_, ⟨j', hj', hj2'⟩⟩ := lin_ends (A := (gI X (c + 1) - i') * (gV V c (e + 1) - gV V c e) + (i' - gI X c) * (gV V (c + 1) (e + 1) - gV V (c + 1) e)) l3 l4
  rw [← lin_y X Y V c e] at hj2 hj2'
  obtain ⟨q1, q2, q3⟩ := same i j hi hj
  obtain ⟨r1, r2, r3⟩ := same i' j' hi' hj'
  refine ⟨⟨_, q1, ?_⟩, ⟨_, r1, ?_⟩⟩
  · rw [vx.2, q3]
    exact ce_mono hpd hpd (Int.mul_le_mul_of_nonneg_right (by omega) (by omega))
  · rw [vx.1, r2]
    exact fl_mono hpd hpd (Int.mul_le_mul_of_nonneg_right (by omega) (by omega))
theorem foldLo_le (l : List Pt) (m : Int) : ∀ a, m ≤ foldLo l a ↔ m ≤ a ∧ ∀ q ∈ l, m ≤ flP q := by
  induction l with
  | nil => intro a; simp [foldLo]
  | cons q l ih =>
    intro a
    rw [show foldLo (q :: l) a = foldLo l (min a (flP q)) from rfl, ih]
    simp only [List.mem_cons, forall_eq_or_imp]
    constructor
    · rintro ⟨h1, h2⟩; exact ⟨by omega, by omega, h2⟩
    · rintro ⟨h1, h2, h3⟩; exact ⟨by omega, h3⟩
theorem Box2.le_most (h : Box2 X Y V a0 a1 b0 b1) {q : Pt} (hq : q ∈ ptsL X Y V a0 a1 b0 b1) : ceP q ≤ ceP (mostP (ptsL X Y V a0 a1 b0 b1)) := by
  obtain ⟨r, hr⟩ := grid_cons X Y a0 a1 b0 b1 (ptAt X Y V)
  have hg : ∀ q ∈ ptsL X Y V a0 a1 b0 b1, 0 < q.d := fun q hq => (h.goodL hq).1
  unfold ptsL at *
  rw [hr] at hg hq ⊢
  rw [ce_mostP _ _ hg]
  exact ((foldHi_le _ _ _).1 (Int.le_refl _)).2 q hq
theorem Box2.least_le (h : Box2 X Y V a0 a1 b0 b1) {q : Pt} (hq : q ∈ ptsL X Y V a0 a1 b0 b1) : flP (leastP (ptsL X Y V a0 a1 b0 b1)) ≤ flP q := by
  obtain ⟨r, hr⟩ := grid_cons X Y a0 a1 b0 b1 (ptAt X Y V)
  have hg : ∀ q ∈ ptsL X Y V a0 a1 b0 b1, 0 < q.d := fun q hq => (h.goodL hq).1
  unfold ptsL at *
  rw [hr] at hg hq ⊢
  rw [fl_leastP _ _ hg]
  exact ((foldLo_le _ _ _).1 (Int.le_refl _)).2 q hq
theorem Box2.inside (h : Box2 X Y V a0 a1 b0 b1) {x y : Int} (hx0 : a0 ≤ x) (hx1 : x ≤ a1) (hy0 : b0 ≤ y) (hy1 : y ≤ b1) :
    flP (leastP (ptsL X Y V a0 a1 b0 b1)) ≤ flP (ptAt X Y V x y) ∧ ceP (ptAt X Y V x y) ≤ ceP (mostP (ptsL X Y V a0 a1 b0 b1)) := by
  obtain ⟨⟨q, hq, h1⟩, ⟨r, hr, h2⟩⟩ := h.between hx0 hx1 hy0 hy1
  have := h.le_most hq
  have := h.least_le hr
  omega
theorem Box2.at_in (h : Box2 X Y V a0 a1 b0 b1) {x y : Int} (hx0 : a0 ≤ x) (hx1 : x ≤ a1) (hy0 : b0 ≤ y) (hy1 : y ≤ b1) : atR X Y V x y = (flP (ptAt X Y V x y), ceP (ptAt X Y V x y), 0) := by
  unfold atR
  rw [h.tab, on_mid h.onx hx0 hx1, on_mid h.ony hy0 hy1]; rfl
theorem Box2.part (h : Box2 X Y V a0 a1 b0 b1) {c0 c1 e0 e1 : Int} (h0 : a0 ≤ c0) (h1 : c0 ≤ c1) (h2 : c1 ≤ a1) (h3 : b0 ≤ e0) (h4 : e0 ≤ e1) (h5 : e1 ≤ b1) : Box2 X Y V c0 c1 e0 e1 := by
  have ox := h.okx; have oy := h.oky; have nx := h.onx; have ny := h.ony
  unfold okS at ox oy
  simp only [Bool.and_eq_true, decide_eq_true_eq] at ox oy
  rw [onB_iff] at nx ny
  exact ⟨h.tab, by unfold okS; simp; omega, by unfold okS; simp; omega, by rw [onB_iff]; omega, by rw [onB_iff]; omega⟩
end
theorem inside_true (X Y : List Int) (V : List (List Int)) (a0 a1 b0 b1 n0 n1 n2 n3 n4 n5 : Int) : swashplatelaw01_SpansInside.f 1000 X Y V a0 a1 b0 b1 n0 n1 n2 n3 n4 n5 = some true := by
  have hj0 : ∀ b, swashplatelaw01_SpansInside.j0 1000 b X Y V a0 a1 b0 b1 n0 n1 n2 n3 n4 n5 = swashplatelaw01_SpansInside.j0 (999 + 1) b X Y V a0 a1 b0 b1 n0 n1 n2 n3 n4 n5 := fun _ => rfl
  have hj1 : ∀ u v b p q, swashplatelaw01_SpansInside.j1 999 u v b a0 a1 b0 b1 n0 n1 n2 n3 n4 n5 X Y V p q = swashplatelaw01_SpansInside.j1 (998 + 1) u v b a0 a1 b0 b1 n0 n1 n2 n3 n4 n5 X Y V p q := fun _ _ _ _ _ => rfl
  have hj2 : ∀ b p q, swashplatelaw01_SpansInside.j2 998 b a0 a1 b0 b1 n0 n1 n2 n3 n4 n5 X Y V p q = swashplatelaw01_SpansInside.j2 (997 + 1) b a0 a1 b0 b1 n0 n1 n2 n3 n4 n5 X Y V p q := fun _ _ _ => rfl
  have h0t : swashplatelaw01_SpansInside.j0 1000 true X Y V a0 a1 b0 b1 n0 n1 n2 n3 n4 n5 = some true := by
    rw [hj0]; simp only [swashplatelaw01_SpansInside.j0]; rw [if_pos trivial, works_at 999 (by omega)]; rfl
  unfold swashplatelaw01_SpansInside.f
  rw [far_total X Y V 1000 (by omega), Option.bind_some]
  cases hf : farB X Y V with
  | true => rw [if_pos rfl]; exact h0t
  | false =>
    obtain ⟨hx, hy, hv, hr⟩ := far_false hf
    rw [if_neg (by simp), cb_total X Y V hx hy hv hr a0 a1 b0 b1 1000 (by omega), Option.bind_some]
    by_cases he : pointsE X Y V a0 a1 b0 b1 = 0
    · have h := box2_of ((points_iff X Y V a0 a1 b0 b1).1 he)
      have ox := h.okx; have oy := h.oky
      unfold okS at ox oy
      simp only [Bool.and_eq_true, decide_eq_true_eq] at ox oy
      obtain ⟨x, ex, x0, x1⟩ := into_total n0 a0 a1 ox.1.1 ox.1.2 ox.2
      obtain ⟨y, ey, y0, y1⟩ := into_total n1 b0 b1 oy.1.1 oy.1.2 oy.2
      obtain ⟨c, ec, c0, c1⟩ := into_total n2 a0 a1 ox.1.1 ox.1.2 ox.2
      obtain ⟨c', ec', c0', c1'⟩ := into_total n3 a0 a1 ox.1.1 ox.1.2 ox.2
      obtain ⟨d, ed, d0, d1⟩ := into_total n4 b0 b1 oy.1.1 oy.1.2 oy.2
      obtain ⟨d', ed', d0', d1'⟩ := into_total n5 b0 b1 oy.1.1 oy.1.2 oy.2
      have hbd : boundR X Y V a0 a1 b0 b1 = (flP (leastP (ptsL X Y V a0 a1 b0 b1)), ceP (mostP (ptsL X Y V a0 a1 b0 b1)), 0) := by unfold boundR; rw [if_pos he]
      have hwo : worstR X Y V a0 a1 b0 b1 = ((mostP (ptsL X Y V a0 a1 b0 b1)).x, (mostP (ptsL X Y V a0 a1 b0 b1)).y, 0) := by unfold worstR; rw [if_pos he]
      have hin := h.inside x0 x1 y0 y1
      obtain ⟨u, hu, v, hv', hm⟩ := grid_mem h.most_in
      have hu' := h.stx hu
      have hv'' := h.sty hv'
      have f1 := mn_facts c c'
      have f2 := mx_facts c c'
      have f3 := mn_facts d d'
      have f4 := mx_facts d d'
      have hp := h.part (c0 := mn c c') (c1 := mx c c') (e0 := mn d d') (e1 := mx d d') (by omega) (by omega) (by omega) (by omega) (by omega) (by omega)
      have hep : pointsE X Y V (mn c c') (mx c c') (mn d d') (mx d d') = 0 := (points_iff _ _ _ _ _ _ _).2 (box2_points hp)
      have hbp : boundR X Y V (mn c c') (mx c c') (mn d d') (mx d d') = (flP (leastP (ptsL X Y V (mn c c') (mx c c') (mn d d') (mx d d'))), ceP (mostP (ptsL X Y V (mn c c') (mx c c') (mn d d') (mx d d'))), 0) := by unfold boundR; rw [if_pos hep]
      obtain ⟨p, hp1, p', hp2, hpe⟩ := grid_mem hp.least_in
      obtain ⟨q, hq1, q', hq2, hqe⟩ := grid_mem hp.most_in
      have k1 := hp.stx hp1
      have k2 := hp.sty hp2
      have k3 := hp.stx hq1
      have k4 := hp.sty hq2
      have i1 := (h.inside (x := p) (y := p') (by omega) (by omega) (by omega) (by omega)).1
      have i2 := (h.inside (x := q) (y := q') (by omega) (by omega) (by omega) (by omega)).2
      rw [show (pointsE X Y V a0 a1 b0 b1 != 0) = false by rw [he]; rfl, hj0]
      simp only [swashplatelaw01_SpansInside.j0]
      rw [if_neg (by simp), copy_total X Y V hx hy hv hr 999 (by omega), Option.bind_some]
      dsimp only
      rw [bound_total, Option.bind_some, ex, Option.bind_some, ey, Option.bind_some, at_total X Y V x y 999 (by omega), Option.bind_some, worst_total, Option.bind_some, hbd, hwo, h.at_in x0 x1 y0 y1]
      dsimp only
      rw [if_pos rfl, if_pos rfl, if_pos rfl, if_neg (by omega), decide_eq_false (show ¬ ceP (ptAt X Y V x y) > ceP (mostP (ptsL X Y V a0 a1 b0 b1)) by omega), hj1]
      simp only [swashplatelaw01_SpansInside.j1]
      rw [hm]
      rw [if_neg (by simp), show (ptAt X Y V u v).x = u from rfl, show (ptAt X Y V u v).y = v from rfl, at_total X Y V u v 998 (by omega), Option.bind_some, h.at_in hu'.2.1 hu'.2.2 hv''.2.1 hv''.2.2]
      dsimp only
      rw [if_pos rfl, if_pos rfl, if_neg (by omega), if_neg (by omega), if_neg (by omega), decide_eq_false (show ¬ v > b1 by omega), hj2]
      simp only [swashplatelaw01_SpansInside.j2]
      rw [if_neg (by simp), ec, Option.bind_some, ec', Option.bind_some, ed, Option.bind_some, ed', Option.bind_some, bound_total, Option.bind_some, hbp]
      dsimp only
      rw [if_pos rfl, hpe, hqe, if_pos (by omega), if_pos (by rw [← hm]; omega), works_at 997 (by omega)]
      rfl
    · rw [show (pointsE X Y V a0 a1 b0 b1 != 0) = true by simpa using he]
      exact h0t
end Go.Proofs.Yteodlmgmmpkpoaa.PS
end
section
namespace Go.Proofs.Yteodlmgmmpkpoaa.PS
open Go.RowKit Go.Deep Go.ChangeShapes Go.WideShapes Go.ChangeAt Go.Proofs.YteodlmgmmpkpoaaW.PrintWords
set_option linter.unusedVariables false
set_option maxRecDepth 100000 in
theorem liftedInside (os : Os) (started : os.Started) (H : Type) (enc : TypeId × Value → H) :
    ReturnsInHanded {} Try.checked os 10 .any (Rows.spansInsideSpec.pre6 enc Try.prog Try.f10 Rows.spansInsideRow.domain false) (Rows.spansInsideSpec.post enc Try.prog Try.f10 false true false false) := by
  refine returnsInHanded_of_change (C := Try.checked) ownNone started (by kernel_rfl) Try.func10
    (ChangeSpec.witness6 (enc := enc) (C := Try.checked) false ⟨#[], #[.agg #[.slice none 0 0, .slice none 0 0, .slice none 0 0], .agg #[.int .i64 0, .int .i64 0, .int .i64 0, .int .i64 0, .int .i64 0, .int .i64 0, .int .i64 0, .int .i64 0, .int .i64 0, .int .i64 0]], []⟩ 8 (by kernel_rfl) (by kernel_rfl) (by kernel_rfl) (by kernel_rfl)) ?_
  intro W base args ds gs before hval0 hW hcnd _
  have hval : ∀ (j : Nat) t v, Try.f10.params[j]? = some t → args[j]? = some v → Value.okWide Try.prog W .any base t v := hval0
  have hW' := hW
  obtain ⟨p, q, hA0, hV, rfl, hfz, hnd⟩ := hW
  have hA : DataW.TrodAll enc Try.prog W 0 (fun _ => true) true Try.f10.params.toList args.toList ds p := hA0
  rw [Try.params10] at hA hval
  obtain ⟨v0, vs0, d0, ds0, p0, q0, hargs, rfl, rfl, h0, r0⟩ := trodAll_cons hA
  obtain ⟨v1, vs1, d1, ds1, p1, q1, rfl, rfl, rfl, h1, r1⟩ := trodAll_cons r0
  obtain ⟨rfl, rfl, rfl⟩ := trodAll_nil r1
  obtain rfl : args = #[v0, v1] := by cases args; simp_all
  obtain ⟨rfl, rfl⟩ := trodVars_none hV
  have k0 := h0
  have lt0 : ∀ x ∈ p0, x.block < W.heap.size := by obtain ⟨m, hm⟩ := k0; exact DataW.trod_lt m _ _ _ hm
  have k1 := h1
  have lt1 : ∀ x ∈ p1, x.block < W.heap.size := by obtain ⟨m, hm⟩ := k1; exact DataW.trod_lt m _ _ _ hm
  obtain ⟨A00, c00, X0, A01, c01, Y0, A02, c02, V0, rfl, t01, t02, t03, t04, t05, t06, _, _, _⟩ := arg25 (hval 0 25 v0 rfl rfl) h0
  obtain ⟨x10, x11, x12, x13, x14, x15, x16, x17, x18, x19, rfl⟩ := arg86 (hval 1 86 v1 rfl rfl) h1
  clear hA0 hval0
  refine (swashplatelaw01_SpansInside.calls 1000 A00 c00 X0 A01 c01 Y0 A02 c02 V0 x10 x11 x12 x13 x14 x15 x16 x17 x18 x19 true W t02 t01 t04 t03 t06 t05 (inside_true X0 Y0 V0 x10 x11 x12 x13 x14 x15 x16 x17 x18 x19) ⟨rfl⟩).mono fun e W' ⟨he, bel⟩ => ?_
  subst he
  exact ⟨_, rfl, _, _, _, [], _, [], hW', trodAll_mk1 (shut_bool Try.underlying4 _), (trodAll_cons_mk (Below.trod laidOut (by kernel_rfl) (of_decide_eq_true (by kernel_rfl)) k0 bel lt0) (trodAll_cons_mk (Below.trod laidOut (by kernel_rfl) (of_decide_eq_true (by kernel_rfl)) k1 bel lt1) trodAll_mk0)), rfl, bel.frame _, fun h => by cases h⟩
theorem factsInside : joinedFacts Try.prog 10 Try.f10 Rows.spansInsideSpec Rows.spansInsideRow = true := by
  have fk : (Rows.spansInsideRow.plainKeys == Try.prog.plainKeys) = true := factKeys
  have fl : (Rows.spansInsideRow.lifted == Try.prog.liftsFinal) = true := factLifted
  have fm : (Try.prog.make == some Rows.spansInsideRow.make) = true := factMake
  unfold joinedFacts
  repeat' (with_reducible refine Bool.and_eq_true_iff.2 ⟨?_, ?_⟩)
  all_goals first | (with_reducible exact fk) | (with_reducible exact factHeard) | (with_reducible exact factEnter) | (with_reducible exact fl) | (with_reducible exact fm) | kernel_rfl
theorem overInside : Rows.spansInsideRow.holds Try.pinned (OpenSpec.ofChange Rows.spansInsideSpec) :=
  OpenClaim.holds_of_wide 10 Try.f10 rfl rfl rfl rfl rfl rfl rfl ⟨rfl, rfl, rfl, rfl, rfl⟩ rfl rfl rfl rfl rfl (by kernel_rfl) Try.func10 factsInside
    (of_decide_eq_true (by kernel_rfl)) (by unfold Func.isWrapper; first | (rw [if_pos (by decide +kernel)]; kernel_rfl) | (rw [if_neg (by decide +kernel)]; exact ⟨rfl, rfl⟩))
    (fun os started H enc _ => liftedInside os started H enc)
theorem insideProved : Rows.SpansInsideSaid := overInside
#print axioms insideProved
end Go.Proofs.Yteodlmgmmpkpoaa.PS
end
