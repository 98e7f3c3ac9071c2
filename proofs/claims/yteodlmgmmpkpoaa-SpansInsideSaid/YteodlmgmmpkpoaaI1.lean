-- Printed by a program of this session out of the translation (hybrid print) and out of hand proofs. Not trusted: Lean checks it.
import Derived.Test.YteodlmgmmpkpoaaI0
section
namespace Go.Proofs.Yteodlmgmmpkpoaa.PS
set_option linter.unusedVariables false
def flP (p : Pt) : Int := p.n / p.d
def ceP (p : Pt) : Int := -((-p.n) / p.d)
def foldLo (l : List Pt) (a : Int) : Int := l.foldl (fun m q => min m (flP q)) a
def foldHi (l : List Pt) (a : Int) : Int := l.foldl (fun m q => max m (ceP q)) a
end Go.Proofs.Yteodlmgmmpkpoaa.PS
end
section
namespace Go.Proofs.Yteodlmgmmpkpoaa.PS
open Go.RowKit Go.Proofs.YteodlmgmmpkpoaaW.PrintWords Go.Proofs.YteodlmgmmpkpoaaW.PrintLast Go.Proofs.YteodlmgmmpkpoaaW.PrintMore
set_option linter.unusedVariables false
theorem ceil_total (a b : Int) (hb : 0 < b) (h0 : -4000000000000000000 ≤ a) (h1 : a ≤ 4000000000000000000) : spans_ceil.f a b = some (-((-a) / b)) := by
  unfold spans_ceil.f
  rw [wr64 (by omega) (by omega), floor_total _ _ hb (by omega) (by omega), Option.bind_some]
  have hq := ediv_bd (a := -a) hb (B := 4000000000000000000) (by omega) (by omega) (by decide)
  rw [wr64 (by omega) (by omega)]
theorem up_total (a b : Int) (hb : 0 < b) (h0 : -4000000000000000000 ≤ a) (h1 : a ≤ 4000000000000000000) : spans_value_up.f a b = some (-((-a) / b)) := by
  unfold spans_value_up.f
  rw [ceil_total _ _ hb h0 h1]
  rfl
end Go.Proofs.Yteodlmgmmpkpoaa.PS
end
section
namespace Go.Proofs.Yteodlmgmmpkpoaa.PS
open Go.RowKit Go.Deep Go.ChangeShapes Go.WideShapes Go.ChangeAt Go.Proofs.YteodlmgmmpkpoaaW.PrintWords
set_option linter.unusedVariables false
section
variable {H : Type} {enc : TypeId × Value → H} {w : World} {base : Nat} {held : Bool} {v : Value} {d : DataW H} {ps : List MemPlace} {r : Reach} {b0 : Nat}
set_option maxRecDepth 100000 in
theorem area_cells {n : Nat} {cs : List Value} {x : DataW H × List MemPlace} (h : DataW.trod enc Try.prog w base (fun _ => true) held n 43 cs = some x) : ∃ a b c e : Int, cs = [.int .i64 a, .int .i64 b, .int .i64 c, .int .i64 e] := by
  obtain ⟨y0, y1, n, _, hl, h0, h1⟩ := trod_struct2 Try.underlying43 h
  have e2 : Try.prog.cellsOf 27 = 2 := by kernel_rfl
  have e4 : Try.prog.cellsOf 43 = 4 := by kernel_rfl
  rw [e4] at hl
  match cs, hl with
  | [c0, c1, c2, c3], _ =>
    simp only [e2, List.drop_zero, List.drop_succ_cons, List.take_succ_cons, List.take_zero] at h0 h1
    obtain ⟨s, hs, _⟩ := opn27.2 H enc w base held n _ _ h0
    obtain ⟨t, ht, _⟩ := opn27.2 H enc w base held n _ _ h1
    have e := k27_open hs
    have e' := k27_open ht
    simp only [List.cons.injEq, and_true] at e e'
    obtain ⟨rfl, rfl⟩ := e
    obtain ⟨rfl, rfl⟩ := e'
    exact ⟨_, _, _, _, rfl⟩
set_option maxRecDepth 100000 in
theorem arg86 (hv : Value.okWide Try.prog w r b0 86 v) (h : DataW.Trod enc Try.prog w base (fun _ => true) held 86 v d ps) :
    ∃ a b c e n0 n1 n2 n3 n4 n5 : Int, v = .agg #[.int .i64 a, .int .i64 b, .int .i64 c, .int .i64 e, .int .i64 n0, .int .i64 n1, .int .i64 n2, .int .i64 n3, .int .i64 n4, .int .i64 n5] := by
  obtain ⟨cs, rfl, hsz⟩ := okWide_struct Try.underlying86 hv
  obtain ⟨z0, z1, z2, z3, z4, z5, z6, z7, z8, z9, rfl⟩ : ∃ z0 z1 z2 z3 z4 z5 z6 z7 z8 z9, cs = #[z0, z1, z2, z3, z4, z5, z6, z7, z8, z9] := by
    have hs : cs.toList.length = 10 := hsz.trans (by kernel_rfl)
    match h : cs.toList, hs with
    | [a, b, c, d, e, f, g, h', i, j], _ => exact ⟨a, b, c, d, e, f, g, h', i, j, by rw [← Array.toArray_toList (xs := cs), h]⟩
  obtain ⟨fuel, hf⟩ := h
  obtain ⟨y0, y1, n, _, hl, h0, h1⟩ := trod_struct2 Try.underlying86 hf
  have e4 : Try.prog.cellsOf 43 = 4 := by kernel_rfl
  have e6 : Try.prog.cellsOf 84 = 6 := by kernel_rfl
  have e3 : Try.prog.cellsOf 3 = 1 := by kernel_rfl
  simp only [e4, e6, Value.cells, List.drop_zero, List.drop_succ_cons, List.take_succ_cons, List.take_zero] at h0 h1
  obtain ⟨a, b, c, e, hc⟩ := area_cells h0
  simp only [List.cons.injEq, and_true] at hc
  obtain ⟨rfl, rfl, rfl, rfl⟩ := hc
  obtain ⟨xs, m, _, _, _, hl', hx⟩ := DataW.trod_array Try.underlying84 h1
  have x0 := hx 0 (by omega)
  have x1 := hx 1 (by omega)
  have x2 := hx 2 (by omega)
  have x3 := hx 3 (by omega)
  have x4 := hx 4 (by omega)
  have x5 := hx 5 (by omega)
  match xs, hl' with
  | [y0, y1, y2, y3, y4, y5], _ =>
    simp only [e3, Nat.zero_mul, Nat.one_mul, Nat.reduceMul, List.drop_zero, List.drop_succ_cons, List.take_succ_cons, List.take_zero, List.getElem?_cons_zero, List.getElem?_cons_succ] at x0 x1 x2 x3 x4 x5
    obtain ⟨n0, g0, _⟩ := DataW.trod_int Try.underlying3 x0
    obtain ⟨n1, g1, _⟩ := DataW.trod_int Try.underlying3 x1
    obtain ⟨n2, g2, _⟩ := DataW.trod_int Try.underlying3 x2
    obtain ⟨n3, g3, _⟩ := DataW.trod_int Try.underlying3 x3
    obtain ⟨n4, g4, _⟩ := DataW.trod_int Try.underlying3 x4
    obtain ⟨n5, g5, _⟩ := DataW.trod_int Try.underlying3 x5
    simp only [List.cons.injEq, and_true] at g0 g1 g2 g3 g4 g5
    subst g0 g1 g2 g3 g4 g5
    exact ⟨a, b, c, e, n0, n1, n2, n3, n4, n5, rfl⟩
end
end Go.Proofs.Yteodlmgmmpkpoaa.PS
end
section
namespace Go.Proofs.Yteodlmgmmpkpoaa.PS
set_option linter.unusedVariables false
theorem spots_meet {l : List Int} (h : Ax l) {x : Int} {i j : Nat} (a : Spot l x i) (b : Spot l x j) : i = j ∨ (j = i + 1 ∧ x = gI l j) ∨ (i = j + 1 ∧ x = gI l i) := by
  have a1 := a.lo; have a2 := a.hi; have a3 := a.lt
  have b1 := b.lo; have b2 := b.hi; have b3 := b.lt
  rcases Nat.lt_trichotomy i j with hlt | heq | hgt
  · right; left
    by_cases he : j = i + 1
    · subst he; exact ⟨rfl, by omega⟩
    · have := h.asc (i + 1) j (by omega) (by omega); omega
  · exact .inl heq
  · right; right
    by_cases he : i = j + 1
    · subst he; exact ⟨rfl, by omega⟩
    · have := h.asc (j + 1) i (by omega) (by omega); omega
theorem line_eq {l : List Int} (h : Ax l) {x : Int} {i j : Nat} (a : Spot l x i) (b : Spot l x j) (f : Nat → Int) :
    ((gI l (i + 1) - x) * f i + (x - gI l i) * f (i + 1)) * (gI l (j + 1) - gI l j) = ((gI l (j + 1) - x) * f j + (x - gI l j) * f (j + 1)) * (gI l (i + 1) - gI l i) := by
  rcases spots_meet h a b with rfl | ⟨rfl, hx⟩ | ⟨rfl, hx⟩
  · rfl
  · rw [hx]; simp only [Int.sub_self, Int.zero_mul, Int.zero_add, Int.add_zero]; grind
  · rw [hx]; simp only [Int.sub_self, Int.zero_mul, Int.zero_add, Int.add_zero]; grind
theorem numAt_x (X Y : List Int) (V : List (List Int)) (i k : Nat) (x y : Int) :
    numAt X Y V i k x y = (gI X (i + 1) - x) * ((gI Y (k + 1) - y) * gV V i k + (y - gI Y k) * gV V i (k + 1)) + (x - gI X i) * ((gI Y (k + 1) - y) * gV V (i + 1) k + (y - gI Y k) * gV V (i + 1) (k + 1)) := by
  unfold numAt; grind
theorem numAt_y (X Y : List Int) (V : List (List Int)) (i k : Nat) (x y : Int) :
    numAt X Y V i k x y = (gI Y (k + 1) - y) * ((gI X (i + 1) - x) * gV V i k + (x - gI X i) * gV V (i + 1) k) + (y - gI Y k) * ((gI X (i + 1) - x) * gV V i (k + 1) + (x - gI X i) * gV V (i + 1) (k + 1)) := by
  unfold numAt; grind
theorem frac_eq {X Y : List Int} {V : List (List Int)} (hx : Ax X) (hy : Ax Y) {x y : Int} {i i' k k' : Nat} (a : Spot X x i) (a' : Spot X x i') (b : Spot Y y k) (b' : Spot Y y k') :
    numAt X Y V i k x y * denAt X Y i' k' = numAt X Y V i' k' x y * denAt X Y i k := by
  have e1 := line_eq hx a a' (fun m => (gI Y (k + 1) - y) * gV V m k + (y - gI Y k) * gV V m (k + 1))
  have e2 := line_eq hy b b' (fun m => (gI X (i' + 1) - x) * gV V i' m + (x - gI X i') * gV V (i' + 1) m)
  rw [← numAt_x X Y V i k x y, ← numAt_x X Y V i' k x y] at e1
  rw [← numAt_y X Y V i' k x y, ← numAt_y X Y V i' k' x y] at e2
  unfold denAt
  generalize numAt X Y V i k x y = n1 at *
  generalize numAt X Y V i' k x y = n2 at *
  generalize numAt X Y V i' k' x y = n3 at *
  generalize gI X (i + 1) - gI X i = p at *
  generalize gI X (i' + 1) - gI X i' = p' at *
  generalize gI Y (k + 1) - gI Y k = q at *
  generalize gI Y (k' + 1) - gI Y k' = q' at *
  calc n1 * (p' * q') = (n1 * p') * q' := by rw [Int.mul_assoc]
    _ = (n2 * p) * q' := by rw [e1]
    _ = (n2 * q') * p := by rw [Int.mul_assoc, Int.mul_comm p q', ← Int.mul_assoc]
    _ = (n3 * q) * p := by rw [e2]
    _ = n3 * (p * q) := by rw [Int.mul_assoc, Int.mul_comm q p]
theorem div_eq {n d n' d' : Int} (hd : 0 < d) (hd' : 0 < d') (h : n * d' = n' * d) : n / d = n' / d' := by
  rw [← Int.mul_ediv_mul_of_pos_left n d hd', h, Int.mul_comm d d', Int.mul_ediv_mul_of_pos_left n' d' hd]
theorem fl_ce_eq {n d n' d' : Int} (hd : 0 < d) (hd' : 0 < d') (h : n * d' = n' * d) : n / d = n' / d' ∧ -((-n) / d) = -((-n') / d') := by
  refine ⟨div_eq hd hd' h, ?_⟩
  rw [div_eq (n := -n) (n' := -n') hd hd' (by rw [Int.neg_mul, Int.neg_mul, h])]
theorem fl_mono {n d n' d' : Int} (hd : 0 < d) (hd' : 0 < d') (h : n * d' ≤ n' * d) : n / d ≤ n' / d' := by
  rw [← Int.mul_ediv_mul_of_pos_left n d hd', ← Int.mul_ediv_mul_of_pos_left n' d' hd, Int.mul_comm d' d]
  exact Int.ediv_le_ediv (Int.mul_pos hd hd') h
end Go.Proofs.Yteodlmgmmpkpoaa.PS
end
section
namespace Go.Proofs.Yteodlmgmmpkpoaa.PS
set_option linter.unusedVariables false
theorem fl_least (m q : Pt) (hm : 0 < m.d) (hq : 0 < q.d) : flP (if ltP q m then q else m) = min (flP m) (flP q) := by
  unfold flP ltP
  by_cases h : q.n * m.d < m.n * q.d
  · rw [if_pos (by simpa using h)]
    have := fl_mono hq hm (Int.le_of_lt h)
    omega
  · rw [if_neg (by simpa using h)]
    have := fl_mono hm hq (Int.not_lt.1 h)
    omega
theorem ce_most (m q : Pt) (hm : 0 < m.d) (hq : 0 < q.d) : ceP (if ltP m q then q else m) = max (ceP m) (ceP q) := by
  unfold ceP ltP
  by_cases h : m.n * q.d < q.n * m.d
  · rw [if_pos (by simpa using h)]
    have := fl_mono (n := -q.n) (n' := -m.n) hq hm (by rw [Int.neg_mul, Int.neg_mul]; omega)
    omega
  · rw [if_neg (by simpa using h)]
    have := fl_mono (n := -m.n) (n' := -q.n) hm hq (by rw [Int.neg_mul, Int.neg_mul]; omega)
    omega
theorem pos_pick {c : Bool} {m q : Pt} (hm : 0 < m.d) (hq : 0 < q.d) : 0 < (if c then q else m).d := by
  cases c
  · exact hm
  · exact hq
theorem fl_foldl : ∀ (l : List Pt) (m : Pt), 0 < m.d → (∀ q ∈ l, 0 < q.d) → flP (l.foldl (fun m q => if ltP q m then q else m) m) = foldLo l (flP m)
  | [], m, _, _ => rfl
  | q :: l, m, hm, hl => by
    have hq := hl q (by simp)
    have ih := fl_foldl l (if ltP q m then q else m) (pos_pick hm hq) (fun x hx => hl x (by simp [hx]))
    rw [List.foldl_cons, ih, fl_least m q hm hq]
    rfl
theorem ce_foldl : ∀ (l : List Pt) (m : Pt), 0 < m.d → (∀ q ∈ l, 0 < q.d) → ceP (l.foldl (fun m q => if ltP m q then q else m) m) = foldHi l (ceP m)
  | [], m, _, _ => rfl
  | q :: l, m, hm, hl => by
    have hq := hl q (by simp)
    have ih := ce_foldl l (if ltP m q then q else m) (pos_pick hm hq) (fun x hx => hl x (by simp [hx]))
    rw [List.foldl_cons, ih, ce_most m q hm hq]
    rfl
theorem fl_leastP (p : Pt) (l : List Pt) (h : ∀ q ∈ p :: l, 0 < q.d) : flP (leastP (p :: l)) = foldLo (p :: l) (flP p) := by
  have := fl_foldl l p (h p (by simp)) (fun q hq => h q (by simp [hq]))
  unfold leastP
  rw [this]
  unfold foldLo
  rw [List.foldl_cons, show min (flP p) (flP p) = flP p by omega]
theorem ce_mostP (p : Pt) (l : List Pt) (h : ∀ q ∈ p :: l, 0 < q.d) : ceP (mostP (p :: l)) = foldHi (p :: l) (ceP p) := by
  have := ce_foldl l p (h p (by simp)) (fun q hq => h q (by simp [hq]))
  unfold mostP
  rw [this]
  unfold foldHi
  rw [List.foldl_cons, show max (ceP p) (ceP p) = ceP p by omega]
end Go.Proofs.Yteodlmgmmpkpoaa.PS
end
section
namespace Go.Proofs.Yteodlmgmmpkpoaa.PS
set_option linter.unusedVariables false
theorem den_pos {X Y : List Int} (hx : Ax X) (hy : Ax Y) {i k : Nat} (hi : i + 1 < X.length) (hk : k + 1 < Y.length) : 0 < denAt X Y i k := by
  unfold denAt
  have e1 := hx.asc i (i + 1) (by omega) hi
  have e2 := hy.asc k (k + 1) (by omega) hk
  exact Int.mul_pos (by omega) (by omega)
end Go.Proofs.Yteodlmgmmpkpoaa.PS
end
section
namespace Go.Proofs.Yteodlmgmmpkpoaa.PS
open Go.RowKit Go.Proofs.YteodlmgmmpkpoaaW.PrintWords Go.Proofs.YteodlmgmmpkpoaaW.PrintLast Go.Proofs.YteodlmgmmpkpoaaW.PrintMore
set_option linter.unusedVariables false
theorem spanned2 (a0 a1 b0 b1 : Int) : spans_spanned.f [⟨a0, a1⟩, ⟨b0, b1⟩] = some (if okS a0 a1 && okS b0 b1 then 0 else 10) := by
  unfold spans_spanned.f
  simp only [List.all_cons, List.all_nil, Bool.and_true]
theorem mx_facts (a b : Int) : a ≤ mx a b ∧ b ≤ mx a b ∧ (mx a b = a ∨ mx a b = b) := by unfold mx; split <;> omega
theorem mn_facts (a b : Int) : mn a b ≤ a ∧ mn a b ≤ b ∧ (mn a b = a ∨ mn a b = b) := by unfold mn; split <;> omega
end Go.Proofs.Yteodlmgmmpkpoaa.PS
end
section
namespace Go.Proofs.Yteodlmgmmpkpoaa.PS
open Go.RowKit Go.Proofs.YteodlmgmmpkpoaaW.PrintWords Go.Proofs.YteodlmgmmpkpoaaW.PrintLast Go.Proofs.YteodlmgmmpkpoaaW.PrintMore
set_option linter.unusedVariables false
theorem lies_total {l : List Int} (h : 2 ≤ l.length) (hl : l.length ≤ 15) (a b : Int) : spans_lies.f l a b = some (onB l a b) := by
  have e : wrap64 ((l.length : Int) - 1) = ((l.length - 1 : Nat) : Int) := by rw [wr64 (by omega) (by omega)]; omega
  have e0 : rd l 0 = gI l 0 := rd_nat l 0
  unfold spans_lies.f onB
  rw [if_pos (by omega), e0, e]
  by_cases h1 : a ≥ gI l 0
  · rw [if_pos h1, if_pos (by omega), if_pos (by omega), rd_nat, decide_eq_true (show gI l 0 ≤ a from h1), Bool.true_and]
  · rw [if_neg h1, decide_eq_false (show ¬ gI l 0 ≤ a from h1), Bool.false_and]
theorem cp_total (X Y : List Int) (V : List (List Int)) (a0 a1 b0 b1 : Int) : spans_checkPoints.f X Y V a0 a1 b0 b1 = some (pointsE X Y V a0 a1 b0 b1) := by
  unfold spans_checkPoints.f pointsE spans_CheckTable.f
  rw [Option.bind_some]
  cases ht : tableB X Y V with
  | false => rfl
  | true =>
    obtain ⟨⟨x0, x1⟩, y0, y1⟩ := tb_lens ht
    rw [if_pos rfl, if_pos rfl, if_pos rfl, spanned2, Option.bind_some]
    cases okS a0 a1 && okS b0 b1 with
    | false => rfl
    | true =>
      rw [if_pos rfl, if_pos rfl, if_pos rfl, lies_total x0 (by omega), Option.bind_some]
      cases onB X a0 a1 with
      | false => rfl
      | true =>
        rw [if_pos rfl, lies_total y0 (by omega), Option.bind_some]
        cases onB Y b0 b1 <;> rfl
theorem points_iff (X Y : List Int) (V : List (List Int)) (a0 a1 b0 b1 : Int) : pointsE X Y V a0 a1 b0 b1 = 0 ↔ pointsB X Y V a0 a1 b0 b1 = true := by
  unfold pointsE pointsB
  cases tableB X Y V <;> cases (okS a0 a1 && okS b0 b1) <;> cases (onB X a0 a1 && onB Y b0 b1) <;> simp
structure Box2 (X Y : List Int) (V : List (List Int)) (a0 a1 b0 b1 : Int) : Prop where
  tab : tableB X Y V = true
  okx : okS a0 a1 = true
  oky : okS b0 b1 = true
  onx : onB X a0 a1 = true
  ony : onB Y b0 b1 = true
theorem box2_of {X Y : List Int} {V : List (List Int)} {a0 a1 b0 b1 : Int} (h : pointsB X Y V a0 a1 b0 b1 = true) : Box2 X Y V a0 a1 b0 b1 := by
  unfold pointsB at h
  simp only [Bool.and_eq_true] at h
  obtain ⟨⟨ht, ho0, ho1⟩, hx, hy⟩ := h
  exact ⟨ht, ho0, ho1, hx, hy⟩
theorem box2_points {X Y : List Int} {V : List (List Int)} {a0 a1 b0 b1 : Int} (h : Box2 X Y V a0 a1 b0 b1) : pointsB X Y V a0 a1 b0 b1 = true := by
  unfold pointsB
  rw [h.tab, h.okx, h.oky, h.onx, h.ony]; rfl
section
variable {X Y : List Int} {V : List (List Int)} {a0 a1 b0 b1 : Int}
theorem Box2.stx (h : Box2 X Y V a0 a1 b0 b1) {x : Int} (hx : x ∈ stopsL X a0 a1) : onB X x x = true ∧ a0 ≤ x ∧ x ≤ a1 := stops_on h.onx (okS_le h.okx) hx
theorem Box2.sty (h : Box2 X Y V a0 a1 b0 b1) {y : Int} (hy : y ∈ stopsL Y b0 b1) : onB Y y y = true ∧ b0 ≤ y ∧ y ≤ b1 := stops_on h.ony (okS_le h.oky) hy
theorem good_at (t : tableB X Y V = true) {x y : Int} (hx : onB X x x = true) (hy : onB Y y y = true) : GoodP (ptAt X Y V x y) := good_pt (tb_of t) (cell_spot (tb_of t).ax hx) (cell_spot (tb_of t).ay hy)
theorem grid_mem {xs ys : List Int} {f : Int → Int → Pt} {q : Pt} (h : q ∈ gridL xs ys f) : ∃ x ∈ xs, ∃ y ∈ ys, q = f x y := by
  unfold gridL at h
  rw [List.mem_flatMap] at h
  obtain ⟨x, hx, hq⟩ := h
  rw [List.mem_map] at hq
  obtain ⟨y, hy, rfl⟩ := hq
  exact ⟨x, hx, y, hy, rfl⟩
theorem Box2.goodL (h : Box2 X Y V a0 a1 b0 b1) {q : Pt} (hq : q ∈ ptsL X Y V a0 a1 b0 b1) : GoodP q := by
  obtain ⟨x, hx, y, hy, rfl⟩ := grid_mem hq
  exact good_at h.tab (h.stx hx).1 (h.sty hy).1
theorem stops_cons (l : List Int) (lo hi : Int) : ∃ r, stopsL l lo hi = lo :: r := ⟨_, rfl⟩
theorem grid_cons (X Y : List Int) (a0 a1 b0 b1 : Int) (f : Int → Int → Pt) : ∃ r, gridL (stopsL X a0 a1) (stopsL Y b0 b1) f = f a0 b0 :: r := by
  obtain ⟨r, hr⟩ := stops_cons X a0 a1
  obtain ⟨s, hs⟩ := stops_cons Y b0 b1
  rw [hr, hs]
  exact ⟨_, rfl⟩
theorem pick_mem (f : Pt → Pt → Bool) : ∀ (l : List Pt) (a : Pt), l.foldl (fun m q => if f m q then q else m) a = a ∨ l.foldl (fun m q => if f m q then q else m) a ∈ l
  | [], a => .inl rfl
  | b :: l, a => by
    rw [List.foldl_cons]
    rcases pick_mem f l (if f a b then b else a) with h | h
    · by_cases hf : f a b = true
      · rw [if_pos hf] at h ⊢; exact .inr (by rw [h]; simp)
      · rw [if_neg hf] at h ⊢; exact .inl h
    · exact .inr (List.mem_cons_of_mem _ h)
theorem least_mem (p : Pt) (l : List Pt) : leastP (p :: l) ∈ p :: l := by
  change l.foldl (fun m q => if ltP q m then q else m) p ∈ p :: l
  rcases pick_mem (fun m q => ltP q m) l p with h | h
  · rw [h]; simp
  · exact List.mem_cons_of_mem _ h
theorem most_mem (p : Pt) (l : List Pt) : mostP (p :: l) ∈ p :: l := by
  change l.foldl (fun m q => if ltP m q then q else m) p ∈ p :: l
  rcases pick_mem (fun m q => ltP m q) l p with h | h
  · rw [h]; simp
  · exact List.mem_cons_of_mem _ h
theorem Box2.least_in (h : Box2 X Y V a0 a1 b0 b1) : leastP (ptsL X Y V a0 a1 b0 b1) ∈ ptsL X Y V a0 a1 b0 b1 := by
  obtain ⟨r, hr⟩ := grid_cons X Y a0 a1 b0 b1 (ptAt X Y V)
  unfold ptsL; rw [hr]; exact least_mem _ _
theorem Box2.most_in (h : Box2 X Y V a0 a1 b0 b1) : mostP (ptsL X Y V a0 a1 b0 b1) ∈ ptsL X Y V a0 a1 b0 b1 := by
  obtain ⟨r, hr⟩ := grid_cons X Y a0 a1 b0 b1 (ptAt X Y V)
  unfold ptsL; rw [hr]; exact most_mem _ _
theorem ext_total (h : Box2 X Y V a0 a1 b0 b1) : spans_extremes.f X Y V a0 a1 b0 b1 =
    some ((leastP (ptsL X Y V a0 a1 b0 b1)).x, (leastP (ptsL X Y V a0 a1 b0 b1)).y, (leastP (ptsL X Y V a0 a1 b0 b1)).n, (leastP (ptsL X Y V a0 a1 b0 b1)).d,
      (mostP (ptsL X Y V a0 a1 b0 b1)).x, (mostP (ptsL X Y V a0 a1 b0 b1)).y, (mostP (ptsL X Y V a0 a1 b0 b1)).n, (mostP (ptsL X Y V a0 a1 b0 b1)).d) := by
  unfold spans_extremes.f
  rw [if_pos (box2_points h)]
theorem good_fl {p : Pt} (h : GoodP p) : spans_floor.f p.n p.d = some (flP p) := by
  obtain ⟨h1, h2, h3, h4⟩ := h
  exact floor_total _ _ h1 (by omega) (by omega)
theorem good_up {p : Pt} (h : GoodP p) : spans_value_up.f p.n p.d = some (ceP p) := by
  obtain ⟨h1, h2, h3, h4⟩ := h
  exact up_total _ _ h1 (by omega) (by omega)
end
end Go.Proofs.Yteodlmgmmpkpoaa.PS
end
section
namespace Go.Proofs.Yteodlmgmmpkpoaa.PS
open Go.RowKit Go.Proofs.YteodlmgmmpkpoaaW.PrintWords Go.Proofs.YteodlmgmmpkpoaaW.PrintLast Go.Proofs.YteodlmgmmpkpoaaW.PrintMore
attribute [local go_sem] max2_int min2_int max_two min_two max_three min_three max_four min_four   -- for this text's walks alone
set_option linter.unusedVariables false
set_option linter.unusedSimpArgs false
def spans_Worst.f (l0_0 : List Int) (l0_1 : List Int) (l0_2 : List (List Int)) (a1_0 : Int) (a1_1 : Int) (a2_0 : Int) (a2_1 : Int) : Option (Int × Int × Int) := (spans_checkPoints.f l0_0 l0_1 l0_2 a1_0 a1_1 a2_0 a2_1).bind fun t452 => (if t452 = 0 then ((spans_extremes.f l0_0 l0_1 l0_2 a1_0 a1_1 a2_0 a2_1).bind fun bt453 => (some (bt453.2.2.2.2.1, bt453.2.2.2.2.2.1, 0))) else (some (0, 0, t452)))
set_option maxHeartbeats 8000000 in
set_option maxRecDepth 100000 in
theorem spans_Worst.calls (A0_0 : Option Addr) (c0_0 : Nat) (l0_0 : List Int) (A0_1 : Option Addr) (c0_1 : Nat) (l0_1 : List Int) (A0_2 : Option Addr) (c0_2 : Nat) (l0_2 : List (List Int)) (a1_0 : Int) (a1_1 : Int) (a2_0 : Int) (a2_1 : Int) (r1 : Int) (r2 : Int) (r3 : Int) (w : World) (hr0_0 : Kd.C (Kd.int .i64) w A0_0 l0_0.length l0_0) (hc0_0 : l0_0.length ≤ c0_0) (hr0_1 : Kd.C (Kd.int .i64) w A0_1 l0_1.length l0_1) (hc0_1 : l0_1.length ≤ c0_1) (hr0_2 : Kd.C (Kd.slice 3 (Kd.int .i64)) w A0_2 l0_2.length l0_2) (hc0_2 : l0_2.length ≤ c0_2) (h : spans_Worst.f l0_0 l0_1 l0_2 a1_0 a1_1 a2_0 a2_1 = some (r1, r2, r3)) :
  Calls Try.prog 32 #[.agg #[.slice A0_0 l0_0.length c0_0, .slice A0_1 l0_1.length c0_1, .slice A0_2 l0_2.length c0_2], .agg #[.int .i64 a1_0, .int .i64 a1_1], .agg #[.int .i64 a2_0, .int .i64 a2_1]] w fun e w' => e = .returned (.tuple #[.int .i64 r1, .int .i64 r2, .int .i64 r3]) ∧ Below w.heap.size w w' := by
 have hu25 := Try.underlying25
 have hu27 := Try.underlying27
 have hu133 := Try.underlying133
 have HR0_0 := Aside0.mk hr0_0
 have HC0_0 := Aside0.mk hc0_0
 clear hr0_0 hc0_0
 have HR0_1 := Aside0.mk hr0_1
 have HC0_1 := Aside0.mk hc0_1
 clear hr0_1 hc0_1
 have HR0_2 := Aside0.mk hr0_2
 have HC0_2 := Aside0.mk hc0_2
 clear hr0_2 hc0_2
 have HB := Aside0.mk (Below.refl w.heap.size w)
 have H : ((spans_checkPoints.f l0_0 l0_1 l0_2 a1_0 a1_1 a2_0 a2_1).bind fun t452 => (if t452 = 0 then ((spans_extremes.f l0_0 l0_1 l0_2 a1_0 a1_1 a2_0 a2_1).bind fun bt453 => (some (bt453.2.2.2.2.1, bt453.2.2.2.2.2.1, 0))) else (some (0, 0, t452)))) = some (r1, r2, r3) := h
 clear h
 replace H := Option.bind_eq_some_iff.mp H
 obtain ⟨t452, A40, H⟩ := H
 replace H : (if t452 = 0 then ((spans_extremes.f l0_0 l0_1 l0_2 a1_0 a1_1 a2_0 a2_1).bind fun bt453 => (some (bt453.2.2.2.2.1, bt453.2.2.2.2.2.1, 0))) else (some (0, 0, t452))) = some (r1, r2, r3) := H
 have A4 := Aside0.mk A40
 clear A40
 by_cases c5 : t452 = 0
 ·
  rw [if_pos c5] at H
  have c5b0 : (t452 == 0) = true := beq_iff_eq.mpr c5
  have c5b1 : (t452 != 0) = false := bne_eq_false_iff_eq.mpr c5
  clear c5
  replace H := Option.bind_eq_some_iff.mp H
  obtain ⟨⟨t453, t454, t455, t456, t457, t458, t459, t460⟩, A60, H⟩ := H
  replace H : (some (t457, t458, 0)) = some (r1, r2, r3) := H
  have A6 := Aside0.mk A60
  clear A60
  simp only [Option.some.injEq, Prod.mk.injEq] at H
  obtain ⟨rfl, rfl, rfl⟩ := H
  go_enter Try.func32, Try.ntmps32
  go_wp2_with (first | ((with_reducible refine gate_dst (N := 3) rfl ?_); refine box_event ?hg (N := 3) ?hd (cs := #[.slice A0_0 l0_0.length c0_0, .slice A0_1 l0_1.length c0_1, .slice A0_2 l0_2.length c0_2]) (t := 25) ?hr ?_; (case hd => rfl); (case hg => rfl); (case hr => first | (go_simp; done) | (go_simp; rfl)); intro gb449 hg w7 hbox hb; have n0_ := Aside0.mk (below_step (bl_ HB.out) hb); have n1_ := Aside0.mk (hbox); have n2_ := Aside0.mk (szl_ hg HB.out); have n3_ := Aside0.mk (szl_ hg HB.out); clear HB; have HB := n0_; have BK449 := n1_; have GW449 := n2_; have GE449 := n3_; clear n0_ n1_ n2_ n3_ hb hbox hg) | ((with_reducible refine gate_dst (N := 4) rfl ?_); refine box_event ?hg (N := 4) ?hd (cs := #[.int .i64 a1_0, .int .i64 a1_1]) (t := 27) ?hr ?_; (case hd => rfl); (case hg => rfl); (case hr => first | (go_simp; done) | (go_simp; rfl)); intro gb450 hg w8 hbox hb; have n0_ := Aside0.mk (blk_below (bk_ BK449.out) hb); have n1_ := Aside0.mk (below_step (bl_ HB.out) hb); have n2_ := Aside0.mk (hbox); have n3_ := Aside0.mk (szl_ hg HB.out); have n4_ := Aside0.mk (szl_ hg HB.out); have n5_ := Aside0.mk (nel_ hg BK449.out); have n6_ := Aside0.mk (ner_ hg BK449.out); clear BK449 HB; have BK449 := n0_; have HB := n1_; have BK450 := n2_; have GW450 := n3_; have GE450 := n4_; have NB449_450 := n5_; have NB450_449 := n6_; clear n0_ n1_ n2_ n3_ n4_ n5_ n6_ hb hbox hg) | ((with_reducible refine gate_dst (N := 5) rfl ?_); refine box_event ?hg (N := 5) ?hd (cs := #[.int .i64 a2_0, .int .i64 a2_1]) (t := 27) ?hr ?_; (case hd => rfl); (case hg => rfl); (case hr => first | (go_simp; done) | (go_simp; rfl)); intro gb451 hg w9 hbox hb; have n0_ := Aside0.mk (blk_below (bk_ BK449.out) hb); have n1_ := Aside0.mk (blk_below (bk_ BK450.out) hb); have n2_ := Aside0.mk (below_step (bl_ HB.out) hb); have n3_ := Aside0.mk (hbox); have n4_ := Aside0.mk (szl_ hg HB.out); have n5_ := Aside0.mk (szl_ hg HB.out); have n6_ := Aside0.mk (nel_ hg BK449.out); have n7_ := Aside0.mk (ner_ hg BK449.out); have n8_ := Aside0.mk (nel_ hg BK450.out); have n9_ := Aside0.mk (ner_ hg BK450.out); clear BK449 BK450 HB; have BK449 := n0_; have BK450 := n1_; have HB := n2_; have BK451 := n3_; have GW451 := n4_; have GE451 := n5_; have NB449_451 := n6_; have NB451_449 := n7_; have NB450_451 := n8_; have NB451_450 := n9_; clear n0_ n1_ n2_ n3_ n4_ n5_ n6_ n7_ n8_ n9_ hb hbox hg; have hnb10 := NB449_450.out; have hnc10 := NB450_449.out; have hnb11 := NB449_451.out; have hnc11 := NB451_449.out; have hcz12_0 : w9.cell? ⟨gb449, 0, none⟩ = some (.slice A0_0 l0_0.length c0_0) := (blk_cell BK449.out 0).trans rfl; have hcz12_1 : w9.cell? ⟨gb449, 1, none⟩ = some (.slice A0_1 l0_1.length c0_1) := (blk_cell BK449.out 1).trans rfl; have hcz12_2 : w9.cell? ⟨gb449, 2, none⟩ = some (.slice A0_2 l0_2.length c0_2) := (blk_cell BK449.out 2).trans rfl; have hfz12_0 := blk_frozen BK449.out 0; have hfz12_1 := blk_frozen BK449.out 1; have hfz12_2 := blk_frozen BK449.out 2; have hnb13 := NB450_451.out; have hnc13 := NB451_450.out; have hcz14_0 : w9.cell? ⟨gb450, 0, none⟩ = some (.int .i64 a1_0) := (blk_cell BK450.out 0).trans rfl; have hcz14_1 : w9.cell? ⟨gb450, 1, none⟩ = some (.int .i64 a1_1) := (blk_cell BK450.out 1).trans rfl; have hfz14_0 := blk_frozen BK450.out 0; have hfz14_1 := blk_frozen BK450.out 1; have hcz15_0 : w9.cell? ⟨gb451, 0, none⟩ = some (.int .i64 a2_0) := (blk_cell BK451.out 0).trans rfl; have hcz15_1 : w9.cell? ⟨gb451, 1, none⟩ = some (.int .i64 a2_1) := (blk_cell BK451.out 1).trans rfl; have hfz15_0 := blk_frozen BK451.out 0; have hfz15_1 := blk_frozen BK451.out 1) | (go_at_call 88; (with_reducible refine (spans_checkPoints.calls _ _ l0_0 _ _ l0_1 _ _ l0_2 a1_0 a1_1 a2_0 a2_1 t452 _ ?side1 ?side2 ?side3 ?side4 ?side5 ?side6 A4.out).mono ?_); (case side1 => exact cr_ (Kd.C_below HR0_0.out HB.out)); (case side2 => exact HC0_0.out); (case side3 => exact cr_ (Kd.C_below HR0_1.out HB.out)); (case side4 => exact HC0_1.out); (case side5 => exact cr_ (Kd.C_below HR0_2.out HB.out)); (case side6 => exact HC0_2.out); rintro e w16 ⟨rfl, hb⟩; have n0_ := Aside0.mk (blk_below (bk_ BK449.out) hb); have n1_ := Aside0.mk (blk_below (bk_ BK450.out) hb); have n2_ := Aside0.mk (blk_below (bk_ BK451.out) hb); have n3_ := Aside0.mk (below_step (bl_ HB.out) hb); clear BK449 BK450 BK451 HB; have BK449 := n0_; have BK450 := n1_; have BK451 := n2_; have HB := n3_; clear n0_ n1_ n2_ n3_; (try clear hb); (try clear hb2); (try clear hk); (try clear hi); have hcz17_0 : w16.cell? ⟨gb449, 0, none⟩ = some (.slice A0_0 l0_0.length c0_0) := (blk_cell BK449.out 0).trans rfl; have hcz17_1 : w16.cell? ⟨gb449, 1, none⟩ = some (.slice A0_1 l0_1.length c0_1) := (blk_cell BK449.out 1).trans rfl; have hcz17_2 : w16.cell? ⟨gb449, 2, none⟩ = some (.slice A0_2 l0_2.length c0_2) := (blk_cell BK449.out 2).trans rfl; have hfz17_0 := blk_frozen BK449.out 0; have hfz17_1 := blk_frozen BK449.out 1; have hfz17_2 := blk_frozen BK449.out 2; have hcz18_0 : w16.cell? ⟨gb450, 0, none⟩ = some (.int .i64 a1_0) := (blk_cell BK450.out 0).trans rfl; have hcz18_1 : w16.cell? ⟨gb450, 1, none⟩ = some (.int .i64 a1_1) := (blk_cell BK450.out 1).trans rfl; have hfz18_0 := blk_frozen BK450.out 0; have hfz18_1 := blk_frozen BK450.out 1; have hcz19_0 : w16.cell? ⟨gb451, 0, none⟩ = some (.int .i64 a2_0) := (blk_cell BK451.out 0).trans rfl; have hcz19_1 : w16.cell? ⟨gb451, 1, none⟩ = some (.int .i64 a2_1) := (blk_cell BK451.out 1).trans rfl; have hfz19_0 := blk_frozen BK451.out 0; have hfz19_1 := blk_frozen BK451.out 1) | (go_at_call 89; (with_reducible refine (spans_extremes.calls _ _ l0_0 _ _ l0_1 _ _ l0_2 a1_0 a1_1 a2_0 a2_1 t453 t454 t455 t456 t457 t458 t459 t460 _ ?side1 ?side2 ?side3 ?side4 ?side5 ?side6 A6.out).mono ?_); (case side1 => exact cr_ (Kd.C_below HR0_0.out HB.out)); (case side2 => exact HC0_0.out); (case side3 => exact cr_ (Kd.C_below HR0_1.out HB.out)); (case side4 => exact HC0_1.out); (case side5 => exact cr_ (Kd.C_below HR0_2.out HB.out)); (case side6 => exact HC0_2.out); rintro e w20 ⟨rfl, hb⟩; have n0_ := Aside0.mk (blk_below (bk_ BK449.out) hb); have n1_ := Aside0.mk (blk_below (bk_ BK450.out) hb); have n2_ := Aside0.mk (blk_below (bk_ BK451.out) hb); have n3_ := Aside0.mk (below_step (bl_ HB.out) hb); clear BK449 BK450 BK451 HB; have BK449 := n0_; have BK450 := n1_; have BK451 := n2_; have HB := n3_; clear n0_ n1_ n2_ n3_; (try clear hb); (try clear hb2); (try clear hk); (try clear hi)) | ((with_reducible refine gate_dst (N := 10) rfl ?_); refine box_event ?hg (N := 10) ?hd (cs := #[.int .i64 0, .int .i64 0, .int .i64 0, .int .i64 0]) (t := 133) ?hr ?_; (case hd => rfl); (case hg => rfl); (case hr => first | (go_simp; done) | (go_simp; rfl)); intro gb461 hg w21 hbox hb; have n0_ := Aside0.mk (blk_below (bk_ BK449.out) hb); have n1_ := Aside0.mk (blk_below (bk_ BK450.out) hb); have n2_ := Aside0.mk (blk_below (bk_ BK451.out) hb); have n3_ := Aside0.mk (below_step (bl_ HB.out) hb); have n4_ := Aside0.mk (hbox); have n5_ := Aside0.mk (szl_ hg HB.out); have n6_ := Aside0.mk (szl_ hg HB.out); have n7_ := Aside0.mk (nel_ hg BK449.out); have n8_ := Aside0.mk (ner_ hg BK449.out); have n9_ := Aside0.mk (nel_ hg BK450.out); have n10_ := Aside0.mk (ner_ hg BK450.out); have n11_ := Aside0.mk (nel_ hg BK451.out); have n12_ := Aside0.mk (ner_ hg BK451.out); clear BK449 BK450 BK451 HB; have BK449 := n0_; have BK450 := n1_; have BK451 := n2_; have HB := n3_; have BK461 := n4_; have GW461 := n5_; have GE461 := n6_; have NB449_461 := n7_; have NB461_449 := n8_; have NB450_461 := n9_; have NB461_450 := n10_; have NB451_461 := n11_; have NB461_451 := n12_; clear n0_ n1_ n2_ n3_ n4_ n5_ n6_ n7_ n8_ n9_ n10_ n11_ n12_ hb hbox hg) | ((with_reducible refine gate_dst (N := 11) rfl ?_); refine box_event ?hg (N := 11) ?hd (cs := #[.int .i64 0, .int .i64 0, .int .i64 0, .int .i64 0]) (t := 133) ?hr ?_; (case hd => rfl); (case hg => rfl); (case hr => first | (go_simp; done) | (go_simp; rfl)); intro gb462 hg w22 hbox hb; have n0_ := Aside0.mk (blk_below (bk_ BK449.out) hb); have n1_ := Aside0.mk (blk_below (bk_ BK450.out) hb); have n2_ := Aside0.mk (blk_below (bk_ BK451.out) hb); have n3_ := Aside0.mk (blk_below (bk_ BK461.out) hb); have n4_ := Aside0.mk (below_step (bl_ HB.out) hb); have n5_ := Aside0.mk (hbox); have n6_ := Aside0.mk (szl_ hg HB.out); have n7_ := Aside0.mk (szl_ hg HB.out); have n8_ := Aside0.mk (nel_ hg BK449.out); have n9_ := Aside0.mk (ner_ hg BK449.out); have n10_ := Aside0.mk (nel_ hg BK450.out); have n11_ := Aside0.mk (ner_ hg BK450.out); have n12_ := Aside0.mk (nel_ hg BK451.out); have n13_ := Aside0.mk (ner_ hg BK451.out); have n14_ := Aside0.mk (nel_ hg BK461.out); have n15_ := Aside0.mk (ner_ hg BK461.out); clear BK449 BK450 BK451 BK461 HB; have BK449 := n0_; have BK450 := n1_; have BK451 := n2_; have BK461 := n3_; have HB := n4_; have BK462 := n5_; have GW462 := n6_; have GE462 := n7_; have NB449_462 := n8_; have NB462_449 := n9_; have NB450_462 := n10_; have NB462_450 := n11_; have NB451_462 := n12_; have NB462_451 := n13_; have NB461_462 := n14_; have NB462_461 := n15_; clear n0_ n1_ n2_ n3_ n4_ n5_ n6_ n7_ n8_ n9_ n10_ n11_ n12_ n13_ n14_ n15_ hb hbox hg; have hnb23 := NB461_449.out; have hnc23 := NB449_461.out; have hnb24 := NB461_450.out; have hnc24 := NB450_461.out; have hnb25 := NB461_451.out; have hnc25 := NB451_461.out; have hnb26 := NB461_462.out; have hnc26 := NB462_461.out; have hcz27_0 : w22.cell? ⟨gb461, 0, none⟩ = some (.int .i64 0) := (blk_cell BK461.out 0).trans rfl; have hcz27_1 : w22.cell? ⟨gb461, 1, none⟩ = some (.int .i64 0) := (blk_cell BK461.out 1).trans rfl; have hcz27_2 : w22.cell? ⟨gb461, 2, none⟩ = some (.int .i64 0) := (blk_cell BK461.out 2).trans rfl; have hcz27_3 : w22.cell? ⟨gb461, 3, none⟩ = some (.int .i64 0) := (blk_cell BK461.out 3).trans rfl; have hfz27_0 := blk_frozen BK461.out 0; have hfz27_1 := blk_frozen BK461.out 1; have hfz27_2 := blk_frozen BK461.out 2; have hfz27_3 := blk_frozen BK461.out 3; have hnb28 := NB462_449.out; have hnc28 := NB449_462.out; have hnb29 := NB462_450.out; have hnc29 := NB450_462.out; have hnb30 := NB462_451.out; have hnc30 := NB451_462.out; have hcz31_0 : w22.cell? ⟨gb462, 0, none⟩ = some (.int .i64 0) := (blk_cell BK462.out 0).trans rfl; have hcz31_1 : w22.cell? ⟨gb462, 1, none⟩ = some (.int .i64 0) := (blk_cell BK462.out 1).trans rfl; have hcz31_2 : w22.cell? ⟨gb462, 2, none⟩ = some (.int .i64 0) := (blk_cell BK462.out 2).trans rfl; have hcz31_3 : w22.cell? ⟨gb462, 3, none⟩ = some (.int .i64 0) := (blk_cell BK462.out 3).trans rfl; have hfz31_0 := blk_frozen BK462.out 0; have hfz31_1 := blk_frozen BK462.out 1; have hfz31_2 := blk_frozen BK462.out 2; have hfz31_3 := blk_frozen BK462.out 3))
  repeat (go_quiet (first | ((with_reducible refine gate_dst (N := 3) rfl ?_); refine box_event ?hg (N := 3) ?hd (cs := #[.slice A0_0 l0_0.length c0_0, .slice A0_1 l0_1.length c0_1, .slice A0_2 l0_2.length c0_2]) (t := 25) ?hr ?_; (case hd => rfl); (case hg => rfl); (case hr => first | (go_simp; done) | (go_simp; rfl)); intro gb449 hg w7 hbox hb; have n0_ := Aside0.mk (below_step (bl_ HB.out) hb); have n1_ := Aside0.mk (hbox); have n2_ := Aside0.mk (szl_ hg HB.out); have n3_ := Aside0.mk (szl_ hg HB.out); clear HB; have HB := n0_; have BK449 := n1_; have GW449 := n2_; have GE449 := n3_; clear n0_ n1_ n2_ n3_ hb hbox hg) | ((with_reducible refine gate_dst (N := 4) rfl ?_); refine box_event ?hg (N := 4) ?hd (cs := #[.int .i64 a1_0, .int .i64 a1_1]) (t := 27) ?hr ?_; (case hd => rfl); (case hg => rfl); (case hr => first | (go_simp; done) | (go_simp; rfl)); intro gb450 hg w8 hbox hb; have n0_ := Aside0.mk (blk_below (bk_ BK449.out) hb); have n1_ := Aside0.mk (below_step (bl_ HB.out) hb); have n2_ := Aside0.mk (hbox); have n3_ := Aside0.mk (szl_ hg HB.out); have n4_ := Aside0.mk (szl_ hg HB.out); have n5_ := Aside0.mk (nel_ hg BK449.out); have n6_ := Aside0.mk (ner_ hg BK449.out); clear BK449 HB; have BK449 := n0_; have HB := n1_; have BK450 := n2_; have GW450 := n3_; have GE450 := n4_; have NB449_450 := n5_; have NB450_449 := n6_; clear n0_ n1_ n2_ n3_ n4_ n5_ n6_ hb hbox hg) | ((with_reducible refine gate_dst (N := 5) rfl ?_); refine box_event ?hg (N := 5) ?hd (cs := #[.int .i64 a2_0, .int .i64 a2_1]) (t := 27) ?hr ?_; (case hd => rfl); (case hg => rfl); (case hr => first | (go_simp; done) | (go_simp; rfl)); intro gb451 hg w9 hbox hb; have n0_ := Aside0.mk (blk_below (bk_ BK449.out) hb); have n1_ := Aside0.mk (blk_below (bk_ BK450.out) hb); have n2_ := Aside0.mk (below_step (bl_ HB.out) hb); have n3_ := Aside0.mk (hbox); have n4_ := Aside0.mk (szl_ hg HB.out); have n5_ := Aside0.mk (szl_ hg HB.out); have n6_ := Aside0.mk (nel_ hg BK449.out); have n7_ := Aside0.mk (ner_ hg BK449.out); have n8_ := Aside0.mk (nel_ hg BK450.out); have n9_ := Aside0.mk (ner_ hg BK450.out); clear BK449 BK450 HB; have BK449 := n0_; have BK450 := n1_; have HB := n2_; have BK451 := n3_; have GW451 := n4_; have GE451 := n5_; have NB449_451 := n6_; have NB451_449 := n7_; have NB450_451 := n8_; have NB451_450 := n9_; clear n0_ n1_ n2_ n3_ n4_ n5_ n6_ n7_ n8_ n9_ hb hbox hg; have hnb10 := NB449_450.out; have hnc10 := NB450_449.out; have hnb11 := NB449_451.out; have hnc11 := NB451_449.out; have hcz12_0 : w9.cell? ⟨gb449, 0, none⟩ = some (.slice A0_0 l0_0.length c0_0) := (blk_cell BK449.out 0).trans rfl; have hcz12_1 : w9.cell? ⟨gb449, 1, none⟩ = some (.slice A0_1 l0_1.length c0_1) := (blk_cell BK449.out 1).trans rfl; have hcz12_2 : w9.cell? ⟨gb449, 2, none⟩ = some (.slice A0_2 l0_2.length c0_2) := (blk_cell BK449.out 2).trans rfl; have hfz12_0 := blk_frozen BK449.out 0; have hfz12_1 := blk_frozen BK449.out 1; have hfz12_2 := blk_frozen BK449.out 2; have hnb13 := NB450_451.out; have hnc13 := NB451_450.out; have hcz14_0 : w9.cell? ⟨gb450, 0, none⟩ = some (.int .i64 a1_0) := (blk_cell BK450.out 0).trans rfl; have hcz14_1 : w9.cell? ⟨gb450, 1, none⟩ = some (.int .i64 a1_1) := (blk_cell BK450.out 1).trans rfl; have hfz14_0 := blk_frozen BK450.out 0; have hfz14_1 := blk_frozen BK450.out 1; have hcz15_0 : w9.cell? ⟨gb451, 0, none⟩ = some (.int .i64 a2_0) := (blk_cell BK451.out 0).trans rfl; have hcz15_1 : w9.cell? ⟨gb451, 1, none⟩ = some (.int .i64 a2_1) := (blk_cell BK451.out 1).trans rfl; have hfz15_0 := blk_frozen BK451.out 0; have hfz15_1 := blk_frozen BK451.out 1) | (go_at_call 88; (with_reducible refine (spans_checkPoints.calls _ _ l0_0 _ _ l0_1 _ _ l0_2 a1_0 a1_1 a2_0 a2_1 t452 _ ?side1 ?side2 ?side3 ?side4 ?side5 ?side6 A4.out).mono ?_); (case side1 => exact cr_ (Kd.C_below HR0_0.out HB.out)); (case side2 => exact HC0_0.out); (case side3 => exact cr_ (Kd.C_below HR0_1.out HB.out)); (case side4 => exact HC0_1.out); (case side5 => exact cr_ (Kd.C_below HR0_2.out HB.out)); (case side6 => exact HC0_2.out); rintro e w16 ⟨rfl, hb⟩; have n0_ := Aside0.mk (blk_below (bk_ BK449.out) hb); have n1_ := Aside0.mk (blk_below (bk_ BK450.out) hb); have n2_ := Aside0.mk (blk_below (bk_ BK451.out) hb); have n3_ := Aside0.mk (below_step (bl_ HB.out) hb); clear BK449 BK450 BK451 HB; have BK449 := n0_; have BK450 := n1_; have BK451 := n2_; have HB := n3_; clear n0_ n1_ n2_ n3_; (try clear hb); (try clear hb2); (try clear hk); (try clear hi); have hcz17_0 : w16.cell? ⟨gb449, 0, none⟩ = some (.slice A0_0 l0_0.length c0_0) := (blk_cell BK449.out 0).trans rfl; have hcz17_1 : w16.cell? ⟨gb449, 1, none⟩ = some (.slice A0_1 l0_1.length c0_1) := (blk_cell BK449.out 1).trans rfl; have hcz17_2 : w16.cell? ⟨gb449, 2, none⟩ = some (.slice A0_2 l0_2.length c0_2) := (blk_cell BK449.out 2).trans rfl; have hfz17_0 := blk_frozen BK449.out 0; have hfz17_1 := blk_frozen BK449.out 1; have hfz17_2 := blk_frozen BK449.out 2; have hcz18_0 : w16.cell? ⟨gb450, 0, none⟩ = some (.int .i64 a1_0) := (blk_cell BK450.out 0).trans rfl; have hcz18_1 : w16.cell? ⟨gb450, 1, none⟩ = some (.int .i64 a1_1) := (blk_cell BK450.out 1).trans rfl; have hfz18_0 := blk_frozen BK450.out 0; have hfz18_1 := blk_frozen BK450.out 1; have hcz19_0 : w16.cell? ⟨gb451, 0, none⟩ = some (.int .i64 a2_0) := (blk_cell BK451.out 0).trans rfl; have hcz19_1 : w16.cell? ⟨gb451, 1, none⟩ = some (.int .i64 a2_1) := (blk_cell BK451.out 1).trans rfl; have hfz19_0 := blk_frozen BK451.out 0; have hfz19_1 := blk_frozen BK451.out 1) | (go_at_call 89; (with_reducible refine (spans_extremes.calls _ _ l0_0 _ _ l0_1 _ _ l0_2 a1_0 a1_1 a2_0 a2_1 t453 t454 t455 t456 t457 t458 t459 t460 _ ?side1 ?side2 ?side3 ?side4 ?side5 ?side6 A6.out).mono ?_); (case side1 => exact cr_ (Kd.C_below HR0_0.out HB.out)); (case side2 => exact HC0_0.out); (case side3 => exact cr_ (Kd.C_below HR0_1.out HB.out)); (case side4 => exact HC0_1.out); (case side5 => exact cr_ (Kd.C_below HR0_2.out HB.out)); (case side6 => exact HC0_2.out); rintro e w20 ⟨rfl, hb⟩; have n0_ := Aside0.mk (blk_below (bk_ BK449.out) hb); have n1_ := Aside0.mk (blk_below (bk_ BK450.out) hb); have n2_ := Aside0.mk (blk_below (bk_ BK451.out) hb); have n3_ := Aside0.mk (below_step (bl_ HB.out) hb); clear BK449 BK450 BK451 HB; have BK449 := n0_; have BK450 := n1_; have BK451 := n2_; have HB := n3_; clear n0_ n1_ n2_ n3_; (try clear hb); (try clear hb2); (try clear hk); (try clear hi)) | ((with_reducible refine gate_dst (N := 10) rfl ?_); refine box_event ?hg (N := 10) ?hd (cs := #[.int .i64 0, .int .i64 0, .int .i64 0, .int .i64 0]) (t := 133) ?hr ?_; (case hd => rfl); (case hg => rfl); (case hr => first | (go_simp; done) | (go_simp; rfl)); intro gb461 hg w21 hbox hb; have n0_ := Aside0.mk (blk_below (bk_ BK449.out) hb); have n1_ := Aside0.mk (blk_below (bk_ BK450.out) hb); have n2_ := Aside0.mk (blk_below (bk_ BK451.out) hb); have n3_ := Aside0.mk (below_step (bl_ HB.out) hb); have n4_ := Aside0.mk (hbox); have n5_ := Aside0.mk (szl_ hg HB.out); have n6_ := Aside0.mk (szl_ hg HB.out); have n7_ := Aside0.mk (nel_ hg BK449.out); have n8_ := Aside0.mk (ner_ hg BK449.out); have n9_ := Aside0.mk (nel_ hg BK450.out); have n10_ := Aside0.mk (ner_ hg BK450.out); have n11_ := Aside0.mk (nel_ hg BK451.out); have n12_ := Aside0.mk (ner_ hg BK451.out); clear BK449 BK450 BK451 HB; have BK449 := n0_; have BK450 := n1_; have BK451 := n2_; have HB := n3_; have BK461 := n4_; have GW461 := n5_; have GE461 := n6_; have NB449_461 := n7_; have NB461_449 := n8_; have NB450_461 := n9_; have NB461_450 := n10_; have NB451_461 := n11_; have NB461_451 := n12_; clear n0_ n1_ n2_ n3_ n4_ n5_ n6_ n7_ n8_ n9_ n10_ n11_ n12_ hb hbox hg) | ((with_reducible refine gate_dst (N := 11) rfl ?_); refine box_event ?hg (N := 11) ?hd (cs := #[.int .i64 0, .int .i64 0, .int .i64 0, .int .i64 0]) (t := 133) ?hr ?_; (case hd => rfl); (case hg => rfl); (case hr => first | (go_simp; done) | (go_simp; rfl)); intro gb462 hg w22 hbox hb; have n0_ := Aside0.mk (blk_below (bk_ BK449.out) hb); have n1_ := Aside0.mk (blk_below (bk_ BK450.out) hb); have n2_ := Aside0.mk (blk_below (bk_ BK451.out) hb); have n3_ := Aside0.mk (blk_below (bk_ BK461.out) hb); have n4_ := Aside0.mk (below_step (bl_ HB.out) hb); have n5_ := Aside0.mk (hbox); have n6_ := Aside0.mk (szl_ hg HB.out); have n7_ := Aside0.mk (szl_ hg HB.out); have n8_ := Aside0.mk (nel_ hg BK449.out); have n9_ := Aside0.mk (ner_ hg BK449.out); have n10_ := Aside0.mk (nel_ hg BK450.out); have n11_ := Aside0.mk (ner_ hg BK450.out); have n12_ := Aside0.mk (nel_ hg BK451.out); have n13_ := Aside0.mk (ner_ hg BK451.out); have n14_ := Aside0.mk (nel_ hg BK461.out); have n15_ := Aside0.mk (ner_ hg BK461.out); clear BK449 BK450 BK451 BK461 HB; have BK449 := n0_; have BK450 := n1_; have BK451 := n2_; have BK461 := n3_; have HB := n4_; have BK462 := n5_; have GW462 := n6_; have GE462 := n7_; have NB449_462 := n8_; have NB462_449 := n9_; have NB450_462 := n10_; have NB462_450 := n11_; have NB451_462 := n12_; have NB462_451 := n13_; have NB461_462 := n14_; have NB462_461 := n15_; clear n0_ n1_ n2_ n3_ n4_ n5_ n6_ n7_ n8_ n9_ n10_ n11_ n12_ n13_ n14_ n15_ hb hbox hg; have hnb23 := NB461_449.out; have hnc23 := NB449_461.out; have hnb24 := NB461_450.out; have hnc24 := NB450_461.out; have hnb25 := NB461_451.out; have hnc25 := NB451_461.out; have hnb26 := NB461_462.out; have hnc26 := NB462_461.out; have hcz27_0 : w22.cell? ⟨gb461, 0, none⟩ = some (.int .i64 0) := (blk_cell BK461.out 0).trans rfl; have hcz27_1 : w22.cell? ⟨gb461, 1, none⟩ = some (.int .i64 0) := (blk_cell BK461.out 1).trans rfl; have hcz27_2 : w22.cell? ⟨gb461, 2, none⟩ = some (.int .i64 0) := (blk_cell BK461.out 2).trans rfl; have hcz27_3 : w22.cell? ⟨gb461, 3, none⟩ = some (.int .i64 0) := (blk_cell BK461.out 3).trans rfl; have hfz27_0 := blk_frozen BK461.out 0; have hfz27_1 := blk_frozen BK461.out 1; have hfz27_2 := blk_frozen BK461.out 2; have hfz27_3 := blk_frozen BK461.out 3; have hnb28 := NB462_449.out; have hnc28 := NB449_462.out; have hnb29 := NB462_450.out; have hnc29 := NB450_462.out; have hnb30 := NB462_451.out; have hnc30 := NB451_462.out; have hcz31_0 : w22.cell? ⟨gb462, 0, none⟩ = some (.int .i64 0) := (blk_cell BK462.out 0).trans rfl; have hcz31_1 : w22.cell? ⟨gb462, 1, none⟩ = some (.int .i64 0) := (blk_cell BK462.out 1).trans rfl; have hcz31_2 : w22.cell? ⟨gb462, 2, none⟩ = some (.int .i64 0) := (blk_cell BK462.out 2).trans rfl; have hcz31_3 : w22.cell? ⟨gb462, 3, none⟩ = some (.int .i64 0) := (blk_cell BK462.out 3).trans rfl; have hfz31_0 := blk_frozen BK462.out 0; have hfz31_1 := blk_frozen BK462.out 1; have hfz31_2 := blk_frozen BK462.out 2; have hfz31_3 := blk_frozen BK462.out 3)); try go_wp2_with (first | ((with_reducible refine gate_dst (N := 3) rfl ?_); refine box_event ?hg (N := 3) ?hd (cs := #[.slice A0_0 l0_0.length c0_0, .slice A0_1 l0_1.length c0_1, .slice A0_2 l0_2.length c0_2]) (t := 25) ?hr ?_; (case hd => rfl); (case hg => rfl); (case hr => first | (go_simp; done) | (go_simp; rfl)); intro gb449 hg w7 hbox hb; have n0_ := Aside0.mk (below_step (bl_ HB.out) hb); have n1_ := Aside0.mk (hbox); have n2_ := Aside0.mk (szl_ hg HB.out); have n3_ := Aside0.mk (szl_ hg HB.out); clear HB; have HB := n0_; have BK449 := n1_; have GW449 := n2_; have GE449 := n3_; clear n0_ n1_ n2_ n3_ hb hbox hg) | ((with_reducible refine gate_dst (N := 4) rfl ?_); refine box_event ?hg (N := 4) ?hd (cs := #[.int .i64 a1_0, .int .i64 a1_1]) (t := 27) ?hr ?_; (case hd => rfl); (case hg => rfl); (case hr => first | (go_simp; done) | (go_simp; rfl)); intro gb450 hg w8 hbox hb; have n0_ := Aside0.mk (blk_below (bk_ BK449.out) hb); have n1_ := Aside0.mk (below_step (bl_ HB.out) hb); have n2_ := Aside0.mk (hbox); have n3_ := Aside0.mk (szl_ hg HB.out); have n4_ := Aside0.mk (szl_ hg HB.out); have n5_ := Aside0.mk (nel_ hg BK449.out); have n6_ := Aside0.mk (ner_ hg BK449.out); clear BK449 HB; have BK449 := n0_; have HB := n1_; have BK450 := n2_; have GW450 := n3_; have GE450 := n4_; have NB449_450 := n5_; have NB450_449 := n6_; clear n0_ n1_ n2_ n3_ n4_ n5_ n6_ hb hbox hg) | ((with_reducible refine gate_dst (N := 5) rfl ?_); refine box_event ?hg (N := 5) ?hd (cs := #[.int .i64 a2_0, .int .i64 a2_1]) (t := 27) ?hr ?_; (case hd => rfl); (case hg => rfl); (case hr => first | (go_simp; done) | (go_simp; rfl)); intro gb451 hg w9 hbox hb; have n0_ := Aside0.mk (blk_below (bk_ BK449.out) hb); have n1_ := Aside0.mk (blk_below (bk_ BK450.out) hb); have n2_ := Aside0.mk (below_step (bl_ HB.out) hb); have n3_ := Aside0.mk (hbox); have n4_ := Aside0.mk (szl_ hg HB.out); have n5_ := Aside0.mk (szl_ hg HB.out); have n6_ := Aside0.mk (nel_ hg BK449.out); have n7_ := Aside0.mk (ner_ hg BK449.out); have n8_ := Aside0.mk (nel_ hg BK450.out); have n9_ := Aside0.mk (ner_ hg BK450.out); clear BK449 BK450 HB; have BK449 := n0_; have BK450 := n1_; have HB := n2_; have BK451 := n3_; have GW451 := n4_; have GE451 := n5_; have NB449_451 := n6_; have NB451_449 := n7_; have NB450_451 := n8_; have NB451_450 := n9_; clear n0_ n1_ n2_ n3_ n4_ n5_ n6_ n7_ n8_ n9_ hb hbox hg; have hnb10 := NB449_450.out; have hnc10 := NB450_449.out; have hnb11 := NB449_451.out; have hnc11 := NB451_449.out; have hcz12_0 : w9.cell? ⟨gb449, 0, none⟩ = some (.slice A0_0 l0_0.length c0_0) := (blk_cell BK449.out 0).trans rfl; have hcz12_1 : w9.cell? ⟨gb449, 1, none⟩ = some (.slice A0_1 l0_1.length c0_1) := (blk_cell BK449.out 1).trans rfl; have hcz12_2 : w9.cell? ⟨gb449, 2, none⟩ = some (.slice A0_2 l0_2.length c0_2) := (blk_cell BK449.out 2).trans rfl; have hfz12_0 := blk_frozen BK449.out 0; have hfz12_1 := blk_frozen BK449.out 1; have hfz12_2 := blk_frozen BK449.out 2; have hnb13 := NB450_451.out; have hnc13 := NB451_450.out; have hcz14_0 : w9.cell? ⟨gb450, 0, none⟩ = some (.int .i64 a1_0) := (blk_cell BK450.out 0).trans rfl; have hcz14_1 : w9.cell? ⟨gb450, 1, none⟩ = some (.int .i64 a1_1) := (blk_cell BK450.out 1).trans rfl; have hfz14_0 := blk_frozen BK450.out 0; have hfz14_1 := blk_frozen BK450.out 1; have hcz15_0 : w9.cell? ⟨gb451, 0, none⟩ = some (.int .i64 a2_0) := (blk_cell BK451.out 0).trans rfl; have hcz15_1 : w9.cell? ⟨gb451, 1, none⟩ = some (.int .i64 a2_1) := (blk_cell BK451.out 1).trans rfl; have hfz15_0 := blk_frozen BK451.out 0; have hfz15_1 := blk_frozen BK451.out 1) | (go_at_call 88; (with_reducible refine (spans_checkPoints.calls _ _ l0_0 _ _ l0_1 _ _ l0_2 a1_0 a1_1 a2_0 a2_1 t452 _ ?side1 ?side2 ?side3 ?side4 ?side5 ?side6 A4.out).mono ?_); (case side1 => exact cr_ (Kd.C_below HR0_0.out HB.out)); (case side2 => exact HC0_0.out); (case side3 => exact cr_ (Kd.C_below HR0_1.out HB.out)); (case side4 => exact HC0_1.out); (case side5 => exact cr_ (Kd.C_below HR0_2.out HB.out)); (case side6 => exact HC0_2.out); rintro e w16 ⟨rfl, hb⟩; have n0_ := Aside0.mk (blk_below (bk_ BK449.out) hb); have n1_ := Aside0.mk (blk_below (bk_ BK450.out) hb); have n2_ := Aside0.mk (blk_below (bk_ BK451.out) hb); have n3_ := Aside0.mk (below_step (bl_ HB.out) hb); clear BK449 BK450 BK451 HB; have BK449 := n0_; have BK450 := n1_; have BK451 := n2_; have HB := n3_; clear n0_ n1_ n2_ n3_; (try clear hb); (try clear hb2); (try clear hk); (try clear hi); have hcz17_0 : w16.cell? ⟨gb449, 0, none⟩ = some (.slice A0_0 l0_0.length c0_0) := (blk_cell BK449.out 0).trans rfl; have hcz17_1 : w16.cell? ⟨gb449, 1, none⟩ = some (.slice A0_1 l0_1.length c0_1) := (blk_cell BK449.out 1).trans rfl; have hcz17_2 : w16.cell? ⟨gb449, 2, none⟩ = some (.slice A0_2 l0_2.length c0_2) := (blk_cell BK449.out 2).trans rfl; have hfz17_0 := blk_frozen BK449.out 0; have hfz17_1 := blk_frozen BK449.out 1; have hfz17_2 := blk_frozen BK449.out 2; have hcz18_0 : w16.cell? ⟨gb450, 0, none⟩ = some (.int .i64 a1_0) := (blk_cell BK450.out 0).trans rfl; have hcz18_1 : w16.cell? ⟨gb450, 1, none⟩ = some (.int .i64 a1_1) := (blk_cell BK450.out 1).trans rfl; have hfz18_0 := blk_frozen BK450.out 0; have hfz18_1 := blk_frozen BK450.out 1; have hcz19_0 : w16.cell? ⟨gb451, 0, none⟩ = some (.int .i64 a2_0) := (blk_cell BK451.out 0).trans rfl; have hcz19_1 : w16.cell? ⟨gb451, 1, none⟩ = some (.int .i64 a2_1) := (blk_cell BK451.out 1).trans rfl; have hfz19_0 := blk_frozen BK451.out 0; have hfz19_1 := blk_frozen BK451.out 1) | (go_at_call 89; (with_reducible refine (spans_extremes.calls _ _ l0_0 _ _ l0_1 _ _ l0_2 a1_0 a1_1 a2_0 a2_1 t453 t454 t455 t456 t457 t458 t459 t460 _ ?side1 ?side2 ?side3 ?side4 ?side5 ?side6 A6.out).mono ?_); (case side1 => exact cr_ (Kd.C_below HR0_0.out HB.out)); (case side2 => exact HC0_0.out); (case side3 => exact cr_ (Kd.C_below HR0_1.out HB.out)); (case side4 => exact HC0_1.out); (case side5 => exact cr_ (Kd.C_below HR0_2.out HB.out)); (case side6 => exact HC0_2.out); rintro e w20 ⟨rfl, hb⟩; have n0_ := Aside0.mk (blk_below (bk_ BK449.out) hb); have n1_ := Aside0.mk (blk_below (bk_ BK450.out) hb); have n2_ := Aside0.mk (blk_below (bk_ BK451.out) hb); have n3_ := Aside0.mk (below_step (bl_ HB.out) hb); clear BK449 BK450 BK451 HB; have BK449 := n0_; have BK450 := n1_; have BK451 := n2_; have HB := n3_; clear n0_ n1_ n2_ n3_; (try clear hb); (try clear hb2); (try clear hk); (try clear hi)) | ((with_reducible refine gate_dst (N := 10) rfl ?_); refine box_event ?hg (N := 10) ?hd (cs := #[.int .i64 0, .int .i64 0, .int .i64 0, .int .i64 0]) (t := 133) ?hr ?_; (case hd => rfl); (case hg => rfl); (case hr => first | (go_simp; done) | (go_simp; rfl)); intro gb461 hg w21 hbox hb; have n0_ := Aside0.mk (blk_below (bk_ BK449.out) hb); have n1_ := Aside0.mk (blk_below (bk_ BK450.out) hb); have n2_ := Aside0.mk (blk_below (bk_ BK451.out) hb); have n3_ := Aside0.mk (below_step (bl_ HB.out) hb); have n4_ := Aside0.mk (hbox); have n5_ := Aside0.mk (szl_ hg HB.out); have n6_ := Aside0.mk (szl_ hg HB.out); have n7_ := Aside0.mk (nel_ hg BK449.out); have n8_ := Aside0.mk (ner_ hg BK449.out); have n9_ := Aside0.mk (nel_ hg BK450.out); have n10_ := Aside0.mk (ner_ hg BK450.out); have n11_ := Aside0.mk (nel_ hg BK451.out); have n12_ := Aside0.mk (ner_ hg BK451.out); clear BK449 BK450 BK451 HB; have BK449 := n0_; have BK450 := n1_; have BK451 := n2_; have HB := n3_; have BK461 := n4_; have GW461 := n5_; have GE461 := n6_; have NB449_461 := n7_; have NB461_449 := n8_; have NB450_461 := n9_; have NB461_450 := n10_; have NB451_461 := n11_; have NB461_451 := n12_; clear n0_ n1_ n2_ n3_ n4_ n5_ n6_ n7_ n8_ n9_ n10_ n11_ n12_ hb hbox hg) | ((with_reducible refine gate_dst (N := 11) rfl ?_); refine box_event ?hg (N := 11) ?hd (cs := #[.int .i64 0, .int .i64 0, .int .i64 0, .int .i64 0]) (t := 133) ?hr ?_; (case hd => rfl); (case hg => rfl); (case hr => first | (go_simp; done) | (go_simp; rfl)); intro gb462 hg w22 hbox hb; have n0_ := Aside0.mk (blk_below (bk_ BK449.out) hb); have n1_ := Aside0.mk (blk_below (bk_ BK450.out) hb); have n2_ := Aside0.mk (blk_below (bk_ BK451.out) hb); have n3_ := Aside0.mk (blk_below (bk_ BK461.out) hb); have n4_ := Aside0.mk (below_step (bl_ HB.out) hb); have n5_ := Aside0.mk (hbox); have n6_ := Aside0.mk (szl_ hg HB.out); have n7_ := Aside0.mk (szl_ hg HB.out); have n8_ := Aside0.mk (nel_ hg BK449.out); have n9_ := Aside0.mk (ner_ hg BK449.out); have n10_ := Aside0.mk (nel_ hg BK450.out); have n11_ := Aside0.mk (ner_ hg BK450.out); have n12_ := Aside0.mk (nel_ hg BK451.out); have n13_ := Aside0.mk (ner_ hg BK451.out); have n14_ := Aside0.mk (nel_ hg BK461.out); have n15_ := Aside0.mk (ner_ hg BK461.out); clear BK449 BK450 BK451 BK461 HB; have BK449 := n0_; have BK450 := n1_; have BK451 := n2_; have BK461 := n3_; have HB := n4_; have BK462 := n5_; have GW462 := n6_; have GE462 := n7_; have NB449_462 := n8_; have NB462_449 := n9_; have NB450_462 := n10_; have NB462_450 := n11_; have NB451_462 := n12_; have NB462_451 := n13_; have NB461_462 := n14_; have NB462_461 := n15_; clear n0_ n1_ n2_ n3_ n4_ n5_ n6_ n7_ n8_ n9_ n10_ n11_ n12_ n13_ n14_ n15_ hb hbox hg; have hnb23 := NB461_449.out; have hnc23 := NB449_461.out; have hnb24 := NB461_450.out; have hnc24 := NB450_461.out; have hnb25 := NB461_451.out; have hnc25 := NB451_461.out; have hnb26 := NB461_462.out; have hnc26 := NB462_461.out; have hcz27_0 : w22.cell? ⟨gb461, 0, none⟩ = some (.int .i64 0) := (blk_cell BK461.out 0).trans rfl; have hcz27_1 : w22.cell? ⟨gb461, 1, none⟩ = some (.int .i64 0) := (blk_cell BK461.out 1).trans rfl; have hcz27_2 : w22.cell? ⟨gb461, 2, none⟩ = some (.int .i64 0) := (blk_cell BK461.out 2).trans rfl; have hcz27_3 : w22.cell? ⟨gb461, 3, none⟩ = some (.int .i64 0) := (blk_cell BK461.out 3).trans rfl; have hfz27_0 := blk_frozen BK461.out 0; have hfz27_1 := blk_frozen BK461.out 1; have hfz27_2 := blk_frozen BK461.out 2; have hfz27_3 := blk_frozen BK461.out 3; have hnb28 := NB462_449.out; have hnc28 := NB449_462.out; have hnb29 := NB462_450.out; have hnc29 := NB450_462.out; have hnb30 := NB462_451.out; have hnc30 := NB451_462.out; have hcz31_0 : w22.cell? ⟨gb462, 0, none⟩ = some (.int .i64 0) := (blk_cell BK462.out 0).trans rfl; have hcz31_1 : w22.cell? ⟨gb462, 1, none⟩ = some (.int .i64 0) := (blk_cell BK462.out 1).trans rfl; have hcz31_2 : w22.cell? ⟨gb462, 2, none⟩ = some (.int .i64 0) := (blk_cell BK462.out 2).trans rfl; have hcz31_3 : w22.cell? ⟨gb462, 3, none⟩ = some (.int .i64 0) := (blk_cell BK462.out 3).trans rfl; have hfz31_0 := blk_frozen BK462.out 0; have hfz31_1 := blk_frozen BK462.out 1; have hfz31_2 := blk_frozen BK462.out 2; have hfz31_3 := blk_frozen BK462.out 3)))
  go_ret3
  exact ⟨by first | rfl | (simp [errW_none, errW_some] <;> rfl) | (simp [*, errW_none, errW_some] <;> rfl), bl_ HB.out⟩
 ·
  rw [if_neg c5] at H
  have c5b0 : (t452 == 0) = false := beq_eq_false_iff_ne.mpr c5
  have c5b1 : (t452 != 0) = true := bne_iff_ne.mpr c5
  simp only [Option.some.injEq, Prod.mk.injEq] at H
  obtain ⟨rfl, rfl, rfl⟩ := H
  go_enter Try.func32, Try.ntmps32
  go_wp2_with (first | ((with_reducible refine gate_dst (N := 3) rfl ?_); refine box_event ?hg (N := 3) ?hd (cs := #[.slice A0_0 l0_0.length c0_0, .slice A0_1 l0_1.length c0_1, .slice A0_2 l0_2.length c0_2]) (t := 25) ?hr ?_; (case hd => rfl); (case hg => rfl); (case hr => first | (go_simp; done) | (go_simp; rfl)); intro gb449 hg w32 hbox hb; have n0_ := Aside0.mk (below_step (bl_ HB.out) hb); have n1_ := Aside0.mk (hbox); have n2_ := Aside0.mk (szl_ hg HB.out); have n3_ := Aside0.mk (szl_ hg HB.out); clear HB; have HB := n0_; have BK449 := n1_; have GW449 := n2_; have GE449 := n3_; clear n0_ n1_ n2_ n3_ hb hbox hg) | ((with_reducible refine gate_dst (N := 4) rfl ?_); refine box_event ?hg (N := 4) ?hd (cs := #[.int .i64 a1_0, .int .i64 a1_1]) (t := 27) ?hr ?_; (case hd => rfl); (case hg => rfl); (case hr => first | (go_simp; done) | (go_simp; rfl)); intro gb450 hg w33 hbox hb; have n0_ := Aside0.mk (blk_below (bk_ BK449.out) hb); have n1_ := Aside0.mk (below_step (bl_ HB.out) hb); have n2_ := Aside0.mk (hbox); have n3_ := Aside0.mk (szl_ hg HB.out); have n4_ := Aside0.mk (szl_ hg HB.out); have n5_ := Aside0.mk (nel_ hg BK449.out); have n6_ := Aside0.mk (ner_ hg BK449.out); clear BK449 HB; have BK449 := n0_; have HB := n1_; have BK450 := n2_; have GW450 := n3_; have GE450 := n4_; have NB449_450 := n5_; have NB450_449 := n6_; clear n0_ n1_ n2_ n3_ n4_ n5_ n6_ hb hbox hg) | ((with_reducible refine gate_dst (N := 5) rfl ?_); refine box_event ?hg (N := 5) ?hd (cs := #[.int .i64 a2_0, .int .i64 a2_1]) (t := 27) ?hr ?_; (case hd => rfl); (case hg => rfl); (case hr => first | (go_simp; done) | (go_simp; rfl)); intro gb451 hg w34 hbox hb; have n0_ := Aside0.mk (blk_below (bk_ BK449.out) hb); have n1_ := Aside0.mk (blk_below (bk_ BK450.out) hb); have n2_ := Aside0.mk (below_step (bl_ HB.out) hb); have n3_ := Aside0.mk (hbox); have n4_ := Aside0.mk (szl_ hg HB.out); have n5_ := Aside0.mk (szl_ hg HB.out); have n6_ := Aside0.mk (nel_ hg BK449.out); have n7_ := Aside0.mk (ner_ hg BK449.out); have n8_ := Aside0.mk (nel_ hg BK450.out); have n9_ := Aside0.mk (ner_ hg BK450.out); clear BK449 BK450 HB; have BK449 := n0_; have BK450 := n1_; have HB := n2_; have BK451 := n3_; have GW451 := n4_; have GE451 := n5_; have NB449_451 := n6_; have NB451_449 := n7_; have NB450_451 := n8_; have NB451_450 := n9_; clear n0_ n1_ n2_ n3_ n4_ n5_ n6_ n7_ n8_ n9_ hb hbox hg; have hnb35 := NB449_450.out; have hnc35 := NB450_449.out; have hnb36 := NB449_451.out; have hnc36 := NB451_449.out; have hcz37_0 : w34.cell? ⟨gb449, 0, none⟩ = some (.slice A0_0 l0_0.length c0_0) := (blk_cell BK449.out 0).trans rfl; have hcz37_1 : w34.cell? ⟨gb449, 1, none⟩ = some (.slice A0_1 l0_1.length c0_1) := (blk_cell BK449.out 1).trans rfl; have hcz37_2 : w34.cell? ⟨gb449, 2, none⟩ = some (.slice A0_2 l0_2.length c0_2) := (blk_cell BK449.out 2).trans rfl; have hfz37_0 := blk_frozen BK449.out 0; have hfz37_1 := blk_frozen BK449.out 1; have hfz37_2 := blk_frozen BK449.out 2; have hnb38 := NB450_451.out; have hnc38 := NB451_450.out; have hcz39_0 : w34.cell? ⟨gb450, 0, none⟩ = some (.int .i64 a1_0) := (blk_cell BK450.out 0).trans rfl; have hcz39_1 : w34.cell? ⟨gb450, 1, none⟩ = some (.int .i64 a1_1) := (blk_cell BK450.out 1).trans rfl; have hfz39_0 := blk_frozen BK450.out 0; have hfz39_1 := blk_frozen BK450.out 1; have hcz40_0 : w34.cell? ⟨gb451, 0, none⟩ = some (.int .i64 a2_0) := (blk_cell BK451.out 0).trans rfl; have hcz40_1 : w34.cell? ⟨gb451, 1, none⟩ = some (.int .i64 a2_1) := (blk_cell BK451.out 1).trans rfl; have hfz40_0 := blk_frozen BK451.out 0; have hfz40_1 := blk_frozen BK451.out 1) | (go_at_call 88; (with_reducible refine (spans_checkPoints.calls _ _ l0_0 _ _ l0_1 _ _ l0_2 a1_0 a1_1 a2_0 a2_1 t452 _ ?side1 ?side2 ?side3 ?side4 ?side5 ?side6 A4.out).mono ?_); (case side1 => exact cr_ (Kd.C_below HR0_0.out HB.out)); (case side2 => exact HC0_0.out); (case side3 => exact cr_ (Kd.C_below HR0_1.out HB.out)); (case side4 => exact HC0_1.out); (case side5 => exact cr_ (Kd.C_below HR0_2.out HB.out)); (case side6 => exact HC0_2.out); rintro e w41 ⟨rfl, hb⟩; have n0_ := Aside0.mk (blk_below (bk_ BK449.out) hb); have n1_ := Aside0.mk (blk_below (bk_ BK450.out) hb); have n2_ := Aside0.mk (blk_below (bk_ BK451.out) hb); have n3_ := Aside0.mk (below_step (bl_ HB.out) hb); clear BK449 BK450 BK451 HB; have BK449 := n0_; have BK450 := n1_; have BK451 := n2_; have HB := n3_; clear n0_ n1_ n2_ n3_; (try clear hb); (try clear hb2); (try clear hk); (try clear hi)))
  go_ret3
  exact ⟨by first | rfl | (simp [errW_none, errW_some] <;> rfl) | (simp [*, errW_none, errW_some] <;> rfl), bl_ HB.out⟩
end Go.Proofs.Yteodlmgmmpkpoaa.PS
end
section
namespace Go.Proofs.Yteodlmgmmpkpoaa.PS
open Go.RowKit Go.Proofs.YteodlmgmmpkpoaaW.PrintWords Go.Proofs.YteodlmgmmpkpoaaW.PrintLast Go.Proofs.YteodlmgmmpkpoaaW.PrintMore
set_option linter.unusedVariables false
def boundR (X Y : List Int) (V : List (List Int)) (a0 a1 b0 b1 : Int) : Int × Int × Int :=
  if pointsE X Y V a0 a1 b0 b1 = 0 then (flP (leastP (ptsL X Y V a0 a1 b0 b1)), ceP (mostP (ptsL X Y V a0 a1 b0 b1)), 0) else (0, 0, pointsE X Y V a0 a1 b0 b1)
theorem bound_total (X Y : List Int) (V : List (List Int)) (a0 a1 b0 b1 : Int) : spans_Bound.f X Y V a0 a1 b0 b1 = some (boundR X Y V a0 a1 b0 b1) := by
  unfold spans_Bound.f boundR
  rw [cp_total, Option.bind_some]
  by_cases he : pointsE X Y V a0 a1 b0 b1 = 0
  · have h := box2_of ((points_iff X Y V a0 a1 b0 b1).1 he)
    rw [if_pos he, if_pos he, ext_total h, Option.bind_some]
    dsimp only
    rw [good_fl (h.goodL h.least_in), Option.bind_some, good_up (h.goodL h.most_in), Option.bind_some]
  · rw [if_neg he, if_neg he]
def worstR (X Y : List Int) (V : List (List Int)) (a0 a1 b0 b1 : Int) : Int × Int × Int :=
  if pointsE X Y V a0 a1 b0 b1 = 0 then ((mostP (ptsL X Y V a0 a1 b0 b1)).x, (mostP (ptsL X Y V a0 a1 b0 b1)).y, 0) else (0, 0, pointsE X Y V a0 a1 b0 b1)
theorem worst_total (X Y : List Int) (V : List (List Int)) (a0 a1 b0 b1 : Int) : spans_Worst.f X Y V a0 a1 b0 b1 = some (worstR X Y V a0 a1 b0 b1) := by
  unfold spans_Worst.f worstR
  rw [cp_total, Option.bind_some]
  by_cases he : pointsE X Y V a0 a1 b0 b1 = 0
  · have h := box2_of ((points_iff X Y V a0 a1 b0 b1).1 he)
    rw [if_pos he, if_pos he, ext_total h, Option.bind_some]
  · rw [if_neg he, if_neg he]
theorem foldHi_le (l : List Pt) (limit : Int) : ∀ a, foldHi l a ≤ limit ↔ a ≤ limit ∧ ∀ q ∈ l, ceP q ≤ limit := by
  induction l with
  | nil => intro a; simp [foldHi]
  | cons q l ih =>
    intro a
    rw [show foldHi (q :: l) a = foldHi l (max a (ceP q)) from rfl, ih]
    simp only [List.mem_cons, forall_eq_or_imp]
    constructor
    · rintro ⟨h1, h2⟩; exact ⟨by omega, by omega, h2⟩
    · rintro ⟨h1, h2, h3⟩; exact ⟨by omega, h3⟩
end Go.Proofs.Yteodlmgmmpkpoaa.PS
end
section
namespace Go.Proofs.Yteodlmgmmpkpoaa.PS
open Go.RowKit Go.Proofs.YteodlmgmmpkpoaaW.PrintWords Go.Proofs.YteodlmgmmpkpoaaW.PrintLast Go.Proofs.YteodlmgmmpkpoaaW.PrintMore
attribute [local go_sem] max2_int min2_int max_two min_two max_three min_three max_four min_four   -- for this text's walks alone
set_option linter.unusedVariables false
set_option linter.unusedSimpArgs false
def spans_At.j0 : Nat → Int → Int → Bool → List Int → List Int → List (List Int) → Option (Int × Int × Int)
 | 0, _, _, _, _, _, _ => none
 | k + 1, x1, x2, x31, x890000, x890001, x890002 => if x31 = true then (some (0, 0, 1)) else ((spans_at.f x890000 x890001 x890002 x1 x2).bind fun bt894 => ((spans_floor.f bt894.1 bt894.2).bind fun t897 => ((spans_ceil.f bt894.1 bt894.2).bind fun t898 => (some (t897, t898, 0)))))
def spans_At.f (k : Nat) (l0_0 : List Int) (l0_1 : List Int) (l0_2 : List (List Int)) (a1 : Int) (a2 : Int) : Option (Int × Int × Int) := (spans_CheckTable.f l0_0 l0_1 l0_2).bind fun t891 => (if t891 = 0 then ((spans_lies.f l0_0 a1 a1).bind fun t892 => (if t892 = true then ((spans_lies.f l0_1 a2 a2).bind fun t893 => (spans_At.j0 k a1 a2 (!t893) l0_0 l0_1 l0_2)) else (spans_At.j0 k a1 a2 true l0_0 l0_1 l0_2))) else (some (0, 0, t891)))
def spans_At.T7 : Bool × List (List Nat × List Nat) := (true, [([], []), ([0], [0]), ([], []), ([2], [2]), ([1, 3], [1, 3]), ([], []), ([5], [5]), ([], []), ([7], [7]), ([6, 8, 4], [6, 8]), ([4, 9], [4, 9]), ([10, 9, 0, 1, 2, 3, 4, 5, 6, 7, 8, 9, 10], [10]), ([11, 0, 1, 2, 3, 4, 5, 6, 7, 8, 9, 10, 11], [])])
def spans_At.B7 : List Nat := [0, 1, 0, 4, 15, 0, 32, 0, 128, 511, 1023, 2047, 4095]
theorem spans_At.tab7 : rtab .any (opsOf Try.f34 7) = spans_At.T7 := by kernel_rfl
theorem spans_At.bits7 : waitsOk spans_At.T7.2 spans_At.B7 = true := by kernel_rfl
set_option maxHeartbeats 8000000 in
set_option maxRecDepth 100000 in
theorem spans_At.calls (k : Nat) (A0_0 : Option Addr) (c0_0 : Nat) (l0_0 : List Int) (A0_1 : Option Addr) (c0_1 : Nat) (l0_1 : List Int) (A0_2 : Option Addr) (c0_2 : Nat) (l0_2 : List (List Int)) (a1 : Int) (a2 : Int) (r1 : Int) (r2 : Int) (r3 : Int) (w : World) (hr0_0 : Kd.C (Kd.int .i64) w A0_0 l0_0.length l0_0) (hc0_0 : l0_0.length ≤ c0_0) (hr0_1 : Kd.C (Kd.int .i64) w A0_1 l0_1.length l0_1) (hc0_1 : l0_1.length ≤ c0_1) (hr0_2 : Kd.C (Kd.slice 3 (Kd.int .i64)) w A0_2 l0_2.length l0_2) (hc0_2 : l0_2.length ≤ c0_2) (h : spans_At.f k l0_0 l0_1 l0_2 a1 a2 = some (r1, r2, r3)) :
  Calls Try.prog 34 #[.agg #[.slice A0_0 l0_0.length c0_0, .slice A0_1 l0_1.length c0_1, .slice A0_2 l0_2.length c0_2], .int .i64 a1, .int .i64 a2] w fun e w' => e = .returned (.tuple #[.agg #[.int .i64 r1, .int .i64 r2], .int .i64 r3]) ∧ Below w.heap.size w w' := by
 have hu25 := Try.underlying25
 have hu27 := Try.underlying27
 have hu131 := Try.underlying131
 have HR0_0 := Aside0.mk hr0_0
 have HC0_0 := Aside0.mk hc0_0
 clear hr0_0 hc0_0
 have HR0_1 := Aside0.mk hr0_1
 have HC0_1 := Aside0.mk hc0_1
 clear hr0_1 hc0_1
 have HR0_2 := Aside0.mk hr0_2
 have HC0_2 := Aside0.mk hc0_2
 clear hr0_2 hc0_2
 have HB := Aside0.mk (Below.refl w.heap.size w)
 have H : ((spans_CheckTable.f l0_0 l0_1 l0_2).bind fun t891 => (if t891 = 0 then ((spans_lies.f l0_0 a1 a1).bind fun t892 => (if t892 = true then ((spans_lies.f l0_1 a2 a2).bind fun t893 => (spans_At.j0 k a1 a2 (!t893) l0_0 l0_1 l0_2)) else (spans_At.j0 k a1 a2 true l0_0 l0_1 l0_2))) else (some (0, 0, t891)))) = some (r1, r2, r3) := h
 clear h
 replace H := Option.bind_eq_some_iff.mp H
 obtain ⟨t891, A40, H⟩ := H
 replace H : (if t891 = 0 then ((spans_lies.f l0_0 a1 a1).bind fun t892 => (if t892 = true then ((spans_lies.f l0_1 a2 a2).bind fun t893 => (spans_At.j0 k a1 a2 (!t893) l0_0 l0_1 l0_2)) else (spans_At.j0 k a1 a2 true l0_0 l0_1 l0_2))) else (some (0, 0, t891))) = some (r1, r2, r3) := H
 have A4 := Aside0.mk A40
 clear A40
 by_cases c5 : t891 = 0
 ·
  rw [if_pos c5] at H
  have c5b0 : (t891 == 0) = true := beq_iff_eq.mpr c5
  have c5b1 : (t891 != 0) = false := bne_eq_false_iff_eq.mpr c5
  clear c5
  have HC6 := Aside0.mk H
  clear H
  go_enter Try.func34, Try.ntmps34
  go_upto_region 4 with (first | ((with_reducible refine gate_dst (N := 3) rfl ?_); refine box_event ?hg (N := 3) ?hd (cs := #[.slice A0_0 l0_0.length c0_0, .slice A0_1 l0_1.length c0_1, .slice A0_2 l0_2.length c0_2]) (t := 25) ?hr ?_; (case hd => rfl); (case hg => rfl); (case hr => first | (go_simp; done) | (go_simp; rfl)); intro gb889 hg w7 hbox hb; have n0_ := Aside0.mk (below_step (bl_ HB.out) hb); have n1_ := Aside0.mk (hbox); have n2_ := Aside0.mk (szl_ hg HB.out); have n3_ := Aside0.mk (szl_ hg HB.out); clear HB; have HB := n0_; have BK889 := n1_; have GW889 := n2_; have GE889 := n3_; clear n0_ n1_ n2_ n3_ hb hbox hg) | ((with_reducible refine gate_dst (N := 6) rfl ?_); refine box_event ?hg (N := 6) ?hd (cs := #[.int .i64 0, .int .i64 0]) (t := 27) ?hr ?_; (case hd => rfl); (case hg => rfl); (case hr => first | (go_simp; done) | (go_simp; rfl)); intro gb890 hg w8 hbox hb; have n0_ := Aside0.mk (blk_below (bk_ BK889.out) hb); have n1_ := Aside0.mk (below_step (bl_ HB.out) hb); have n2_ := Aside0.mk (hbox); have n3_ := Aside0.mk (szl_ hg HB.out); have n4_ := Aside0.mk (szl_ hg HB.out); have n5_ := Aside0.mk (nel_ hg BK889.out); have n6_ := Aside0.mk (ner_ hg BK889.out); clear BK889 HB; have BK889 := n0_; have HB := n1_; have BK890 := n2_; have GW890 := n3_; have GE890 := n4_; have NB889_890 := n5_; have NB890_889 := n6_; clear n0_ n1_ n2_ n3_ n4_ n5_ n6_ hb hbox hg; have hnb9 := NB889_890.out; have hnc9 := NB890_889.out; have hcz10_0 : w8.cell? ⟨gb889, 0, none⟩ = some (.slice A0_0 l0_0.length c0_0) := (blk_cell BK889.out 0).trans rfl; have hcz10_1 : w8.cell? ⟨gb889, 1, none⟩ = some (.slice A0_1 l0_1.length c0_1) := (blk_cell BK889.out 1).trans rfl; have hcz10_2 : w8.cell? ⟨gb889, 2, none⟩ = some (.slice A0_2 l0_2.length c0_2) := (blk_cell BK889.out 2).trans rfl; have hfz10_0 := blk_frozen BK889.out 0; have hfz10_1 := blk_frozen BK889.out 1; have hfz10_2 := blk_frozen BK889.out 2) | ((with_reducible refine gate_callee (f := 29) rfl ?_); refine goesL_ (some 11) rfl rfl Try.func29 (by kernel_rfl) rfl #[.agg #[.slice A0_0 l0_0.length c0_0, .slice A0_1 l0_1.length c0_1, .slice A0_2 l0_2.length c0_2]] rfl (by (try simp only [List.map_toArray, List.map_cons, List.map_nil]); first | done | rfl | (simp only [List.length_drop, List.length_take]; rfl)) ?_; (with_reducible refine (spans_CheckTable.calls _ _ l0_0 _ _ l0_1 _ _ l0_2 t891 _ ?side1 ?side2 ?side3 ?side4 ?side5 ?side6 A4.out).mono ?_); (case side1 => exact cr_ (Kd.C_below HR0_0.out HB.out)); (case side2 => exact HC0_0.out); (case side3 => exact cr_ (Kd.C_below HR0_1.out HB.out)); (case side4 => exact HC0_1.out); (case side5 => exact cr_ (Kd.C_below HR0_2.out HB.out)); (case side6 => exact HC0_2.out); rintro e w11 ⟨rfl, hb⟩; refine ⟨_, rfl, ?_⟩; have n0_ := Aside0.mk (blk_below (bk_ BK889.out) hb); have n1_ := Aside0.mk (blk_below (bk_ BK890.out) hb); have n2_ := Aside0.mk (below_step (bl_ HB.out) hb); clear BK889 BK890 HB; have BK889 := n0_; have BK890 := n1_; have HB := n2_; clear n0_ n1_ n2_; (try clear hb); (try clear hb2); (try clear hk); (try clear hi)))
  (try simp only [Act.put, List.setIfInBounds_toArray, List.set_cons_zero, List.set_cons_succ])
  go_cut [31] (fun v31 wc => ∃ (kq : Nat) (x31_5 : Bool), v31 = .bool x31_5 ∧ Aside0 (spans_At.j0 kq a1 a2 x31_5 l0_0 l0_1 l0_2 = some (r1, r2, r3)) ∧ Aside0 (kq ≤ k) ∧ Aside0 (wc.heap[gb889]? = some (.cells #[(.slice A0_0 l0_0.length c0_0), (.slice A0_1 l0_1.length c0_1), (.slice A0_2 l0_2.length c0_2)] 25 (0, 0))) ∧ Aside0 (wc.heap[gb890]? = some (.cells #[.int .i64 0, .int .i64 0] 27 (0, 0))) ∧ Aside0 (Below w.heap.size w wc))
  case first =>
   have H := HC6.out
   clear HC6
   replace H := Option.bind_eq_some_iff.mp H
   obtain ⟨t892, A120, H⟩ := H
   replace H : (if t892 = true then ((spans_lies.f l0_1 a2 a2).bind fun t893 => (spans_At.j0 k a1 a2 (!t893) l0_0 l0_1 l0_2)) else (spans_At.j0 k a1 a2 true l0_0 l0_1 l0_2)) = some (r1, r2, r3) := H
   have A12 := Aside0.mk A120
   clear A120
   by_cases c13 : t892 = true
   ·
    subst c13
    have H1 : ((spans_lies.f l0_1 a2 a2).bind fun t893 => (spans_At.j0 k a1 a2 (!t893) l0_0 l0_1 l0_2)) = some (r1, r2, r3) := by rw [if_pos rfl] at H; exact H
    clear H
    have H := H1
    clear H1
    replace H := Option.bind_eq_some_iff.mp H
    obtain ⟨t893, A140, H⟩ := H
    replace H : (spans_At.j0 k a1 a2 (!t893) l0_0 l0_1 l0_2) = some (r1, r2, r3) := H
    have A14 := Aside0.mk A140
    clear A140
    have H' := Aside0.mk H
    clear H
    have hnb15 := NB889_890.out
    have hnc15 := NB890_889.out
    have hcz16_0 : w11.cell? ⟨gb889, 0, none⟩ = some (.slice A0_0 l0_0.length c0_0) := (blk_cell BK889.out 0).trans rfl
    have hcz16_1 : w11.cell? ⟨gb889, 1, none⟩ = some (.slice A0_1 l0_1.length c0_1) := (blk_cell BK889.out 1).trans rfl
    have hcz16_2 : w11.cell? ⟨gb889, 2, none⟩ = some (.slice A0_2 l0_2.length c0_2) := (blk_cell BK889.out 2).trans rfl
    have hfz16_0 := blk_frozen BK889.out 0
    have hfz16_1 := blk_frozen BK889.out 1
    have hfz16_2 := blk_frozen BK889.out 2
    go_wp2_with (first | ((with_reducible refine gate_callee (f := 104) rfl ?_); refine goesL_ (some 21) rfl rfl Try.func104 (by kernel_rfl) rfl #[.slice A0_0 l0_0.length c0_0, .agg #[.int .i64 a1, .int .i64 a1]] rfl (by (try simp only [List.map_toArray, List.map_cons, List.map_nil]); first | done | rfl | (simp only [List.length_drop, List.length_take]; rfl)) ?_; (with_reducible refine (spans_lies.calls _ _ l0_0 a1 a1 true _ ?side1 ?side2 A12.out).mono ?_); (case side1 => exact cr_ (Kd.C_below HR0_0.out HB.out)); (case side2 => exact HC0_0.out); rintro e w17 ⟨rfl, hb⟩; refine ⟨_, rfl, ?_⟩; have n0_ := Aside0.mk (blk_below (bk_ BK889.out) hb); have n1_ := Aside0.mk (blk_below (bk_ BK890.out) hb); have n2_ := Aside0.mk (below_step (bl_ HB.out) hb); clear BK889 BK890 HB; have BK889 := n0_; have BK890 := n1_; have HB := n2_; clear n0_ n1_ n2_; (try clear hb); (try clear hb2); (try clear hk); (try clear hi); have hcz18_0 : w17.cell? ⟨gb889, 0, none⟩ = some (.slice A0_0 l0_0.length c0_0) := (blk_cell BK889.out 0).trans rfl; have hcz18_1 : w17.cell? ⟨gb889, 1, none⟩ = some (.slice A0_1 l0_1.length c0_1) := (blk_cell BK889.out 1).trans rfl; have hcz18_2 : w17.cell? ⟨gb889, 2, none⟩ = some (.slice A0_2 l0_2.length c0_2) := (blk_cell BK889.out 2).trans rfl; have hfz18_0 := blk_frozen BK889.out 0; have hfz18_1 := blk_frozen BK889.out 1; have hfz18_2 := blk_frozen BK889.out 2) | (go_at_call 104; (with_reducible refine (spans_lies.calls _ _ l0_1 a2 a2 t893 _ ?side1 ?side2 A14.out).mono ?_); (case side1 => exact cr_ (Kd.C_below HR0_1.out HB.out)); (case side2 => exact HC0_1.out); rintro e w19 ⟨rfl, hb⟩; have n0_ := Aside0.mk (blk_below (bk_ BK889.out) hb); have n1_ := Aside0.mk (blk_below (bk_ BK890.out) hb); have n2_ := Aside0.mk (below_step (bl_ HB.out) hb); clear BK889 BK890 HB; have BK889 := n0_; have BK890 := n1_; have HB := n2_; clear n0_ n1_ n2_; (try clear hb); (try clear hb2); (try clear hk); (try clear hi)))
    go_meet
    case rel => exact ⟨_, (!t893), (by first | rfl | (simp; done) | (simp [*]; done)), H', ⟨by first | omega | exact Nat.le_refl _⟩, ⟨bk_ BK889.out⟩, ⟨bk_ BK890.out⟩, ⟨bl_ HB.out⟩⟩
   ·
    replace c13 := Bool.eq_false_iff.mpr c13
    subst c13
    have H1 : (spans_At.j0 k a1 a2 true l0_0 l0_1 l0_2) = some (r1, r2, r3) := by rw [if_neg (show ¬ (false = true) by decide)] at H; exact H
    clear H
    have H := H1
    clear H1
    have H' := Aside0.mk H
    clear H
    have hnb20 := NB889_890.out
    have hnc20 := NB890_889.out
    have hcz21_0 : w11.cell? ⟨gb889, 0, none⟩ = some (.slice A0_0 l0_0.length c0_0) := (blk_cell BK889.out 0).trans rfl
    have hcz21_1 : w11.cell? ⟨gb889, 1, none⟩ = some (.slice A0_1 l0_1.length c0_1) := (blk_cell BK889.out 1).trans rfl
    have hcz21_2 : w11.cell? ⟨gb889, 2, none⟩ = some (.slice A0_2 l0_2.length c0_2) := (blk_cell BK889.out 2).trans rfl
    have hfz21_0 := blk_frozen BK889.out 0
    have hfz21_1 := blk_frozen BK889.out 1
    have hfz21_2 := blk_frozen BK889.out 2
    go_wp2_with (first | ((with_reducible refine gate_callee (f := 104) rfl ?_); refine goesL_ (some 21) rfl rfl Try.func104 (by kernel_rfl) rfl #[.slice A0_0 l0_0.length c0_0, .agg #[.int .i64 a1, .int .i64 a1]] rfl (by (try simp only [List.map_toArray, List.map_cons, List.map_nil]); first | done | rfl | (simp only [List.length_drop, List.length_take]; rfl)) ?_; (with_reducible refine (spans_lies.calls _ _ l0_0 a1 a1 false _ ?side1 ?side2 A12.out).mono ?_); (case side1 => exact cr_ (Kd.C_below HR0_0.out HB.out)); (case side2 => exact HC0_0.out); rintro e w22 ⟨rfl, hb⟩; refine ⟨_, rfl, ?_⟩; have n0_ := Aside0.mk (blk_below (bk_ BK889.out) hb); have n1_ := Aside0.mk (blk_below (bk_ BK890.out) hb); have n2_ := Aside0.mk (below_step (bl_ HB.out) hb); clear BK889 BK890 HB; have BK889 := n0_; have BK890 := n1_; have HB := n2_; clear n0_ n1_ n2_; (try clear hb); (try clear hb2); (try clear hk); (try clear hi)))
    go_meet
    case rel => exact ⟨_, (true), (by first | rfl | (simp; done) | (simp [*]; done)), H', ⟨by first | omega | exact Nat.le_refl _⟩, ⟨bk_ BK889.out⟩, ⟨bk_ BK890.out⟩, ⟨bl_ HB.out⟩⟩
  case rest =>
   clear HC6
   try clear c1
   try clear c2
   try clear p2
   try clear c3
   try clear c5
   try clear c5b0
   try clear c5b1
   try clear c9
   try clear c10
   try clear c13
   try clear c15
   try clear c20
   try clear hcz10_0
   try clear hcz10_1
   try clear hcz10_2
   try clear hcz16_0
   try clear hcz16_1
   try clear hcz16_2
   try clear hcz18_0
   try clear hcz18_1
   try clear hcz18_2
   try clear hcz21_0
   try clear hcz21_1
   try clear hcz21_2
   try clear hfz10_0
   try clear hfz10_1
   try clear hfz10_2
   try clear hfz16_0
   try clear hfz16_1
   try clear hfz16_2
   try clear hfz18_0
   try clear hfz18_1
   try clear hfz18_2
   try clear hfz21_0
   try clear hfz21_1
   try clear hfz21_2
   obtain ⟨kq, x31_5, rfl, HA, HJ5, BK889, BK890, HB⟩ := hcut
   cases kq with
   | zero => exact absurd HA.out (by simp [spans_At.j0])
   | succ kj5 =>
    have H := HA.out
    clear HA
    simp only [spans_At.j0] at H
    by_cases c23 : x31_5 = true
    ·
     subst c23
     have H1 : (some (0, 0, 1)) = some (r1, r2, r3) := by rw [if_pos rfl] at H; exact H
     clear H
     have H := H1
     clear H1
     simp only [Option.some.injEq, Prod.mk.injEq] at H
     obtain ⟨rfl, rfl, rfl⟩ := H
     have hnb24 := NB890_889.out
     have hnc24 := NB889_890.out
     have hcz25_0 : wc.cell? ⟨gb890, 0, none⟩ = some (.int .i64 0) := (blk_cell BK890.out 0).trans rfl
     have hcz25_1 : wc.cell? ⟨gb890, 1, none⟩ = some (.int .i64 0) := (blk_cell BK890.out 1).trans rfl
     have hfz25_0 := blk_frozen BK890.out 0
     have hfz25_1 := blk_frozen BK890.out 1
     go_wp2
     refine bodyPost_ret (results_ct rfl _ _ gb890 27 #[.int .i64 0, .int .i64 0] (0, 0) _ rfl (by (with_reducible repeat (first | refine blk_drewN ?_ _ | refine blk_drew ?_ | refine blk_alloc ?_ _)); refine blk_put (cs := #[.int .i64 0, .int .i64 0]) ?_ 1 _ rfl; (with_reducible repeat (first | refine blk_drewN ?_ _ | refine blk_drew ?_ | refine blk_alloc ?_ _)); refine blk_put (cs := #[.int .i64 0, .int .i64 0]) ?_ 0 _ rfl; (with_reducible repeat (first | refine blk_drewN ?_ _ | refine blk_drew ?_ | refine blk_alloc ?_ _)); exact BK890.out) Try.underlying27 rfl (by kernel_rfl)) rfl ?_
     exact ⟨by first | rfl | (simp [errW_none, errW_some] <;> rfl) | (simp [*, errW_none, errW_some] <;> rfl), bl_ HB.out⟩
    ·
     replace c23 := Bool.eq_false_iff.mpr c23
     subst c23
     have H1 : ((spans_at.f l0_0 l0_1 l0_2 a1 a2).bind fun bt894 => ((spans_floor.f bt894.1 bt894.2).bind fun t897 => ((spans_ceil.f bt894.1 bt894.2).bind fun t898 => (some (t897, t898, 0))))) = some (r1, r2, r3) := by rw [if_neg (show ¬ (false = true) by decide)] at H; exact H
     clear H
     have H := H1
     clear H1
     replace H := Option.bind_eq_some_iff.mp H
     obtain ⟨⟨t894, t895⟩, A260, H⟩ := H
     replace H : ((spans_floor.f t894 t895).bind fun t897 => ((spans_ceil.f t894 t895).bind fun t898 => (some (t897, t898, 0)))) = some (r1, r2, r3) := H
     have A26 := Aside0.mk A260
     clear A260
     replace H := Option.bind_eq_some_iff.mp H
     obtain ⟨t897, A270, H⟩ := H
     replace H : ((spans_ceil.f t894 t895).bind fun t898 => (some (t897, t898, 0))) = some (r1, r2, r3) := H
     have A27 := Aside0.mk A270
     clear A270
     replace H := Option.bind_eq_some_iff.mp H
     obtain ⟨t898, A280, H⟩ := H
     replace H : (some (t897, t898, 0)) = some (r1, r2, r3) := H
     have A28 := Aside0.mk A280
     clear A280
     simp only [Option.some.injEq, Prod.mk.injEq] at H
     obtain ⟨rfl, rfl, rfl⟩ := H
     have hnb29 := NB889_890.out
     have hnc29 := NB890_889.out
     have hcz30_0 : wc.cell? ⟨gb889, 0, none⟩ = some (.slice A0_0 l0_0.length c0_0) := (blk_cell BK889.out 0).trans rfl
     have hcz30_1 : wc.cell? ⟨gb889, 1, none⟩ = some (.slice A0_1 l0_1.length c0_1) := (blk_cell BK889.out 1).trans rfl
     have hcz30_2 : wc.cell? ⟨gb889, 2, none⟩ = some (.slice A0_2 l0_2.length c0_2) := (blk_cell BK889.out 2).trans rfl
     have hfz30_0 := blk_frozen BK889.out 0
     have hfz30_1 := blk_frozen BK889.out 1
     have hfz30_2 := blk_frozen BK889.out 2
     try go_wp2_with (first | ((with_reducible refine gate_callee (f := 105) rfl ?_); refine goesL_ (some 36) rfl rfl Try.func105 (by kernel_rfl) rfl #[.agg #[.slice A0_0 l0_0.length c0_0, .slice A0_1 l0_1.length c0_1, .slice A0_2 l0_2.length c0_2], .int .i64 a1, .int .i64 a2] rfl (by (try simp only [List.map_toArray, List.map_cons, List.map_nil]); first | done | rfl | (simp only [List.length_drop, List.length_take]; rfl)) ?_; (with_reducible refine (spans_at.calls _ _ l0_0 _ _ l0_1 _ _ l0_2 a1 a2 t894 t895 _ ?side1 ?side2 ?side3 ?side4 ?side5 ?side6 A26.out).mono ?_); (case side1 => exact cr_ (Kd.C_below HR0_0.out HB.out)); (case side2 => exact HC0_0.out); (case side3 => exact cr_ (Kd.C_below HR0_1.out HB.out)); (case side4 => exact HC0_1.out); (case side5 => exact cr_ (Kd.C_below HR0_2.out HB.out)); (case side6 => exact HC0_2.out); rintro e w31 ⟨rfl, hb⟩; refine ⟨_, rfl, ?_⟩; have n0_ := Aside0.mk (blk_below (bk_ BK889.out) hb); have n1_ := Aside0.mk (blk_below (bk_ BK890.out) hb); have n2_ := Aside0.mk (below_step (bl_ HB.out) hb); clear BK889 BK890 HB; have BK889 := n0_; have BK890 := n1_; have HB := n2_; clear n0_ n1_ n2_; (try clear hb); (try clear hb2); (try clear hk); (try clear hi)) | ((with_reducible refine gate_dst (N := 9) rfl ?_); refine box_event ?hg (N := 9) ?hd (cs := #[.int .i64 0, .int .i64 0]) (t := 131) ?hr ?_; (case hd => rfl); (case hg => rfl); (case hr => first | (go_simp; done) | (go_simp; rfl)); intro gb896 hg w32 hbox hb; have n0_ := Aside0.mk (blk_below (bk_ BK889.out) hb); have n1_ := Aside0.mk (blk_below (bk_ BK890.out) hb); have n2_ := Aside0.mk (below_step (bl_ HB.out) hb); have n3_ := Aside0.mk (hbox); have n4_ := Aside0.mk (szl_ hg HB.out); have n5_ := Aside0.mk (szl_ hg HB.out); have n6_ := Aside0.mk (nel_ hg BK889.out); have n7_ := Aside0.mk (ner_ hg BK889.out); have n8_ := Aside0.mk (nel_ hg BK890.out); have n9_ := Aside0.mk (ner_ hg BK890.out); clear BK889 BK890 HB; have BK889 := n0_; have BK890 := n1_; have HB := n2_; have BK896 := n3_; have GW896 := n4_; have GE896 := n5_; have NB889_896 := n6_; have NB896_889 := n7_; have NB890_896 := n8_; have NB896_890 := n9_; clear n0_ n1_ n2_ n3_ n4_ n5_ n6_ n7_ n8_ n9_ hb hbox hg; have hnb33 := NB896_889.out; have hnc33 := NB889_896.out; have hnb34 := NB896_890.out; have hnc34 := NB890_896.out; have hcz35_0 : w32.cell? ⟨gb896, 0, none⟩ = some (.int .i64 0) := (blk_cell BK896.out 0).trans rfl; have hcz35_1 : w32.cell? ⟨gb896, 1, none⟩ = some (.int .i64 0) := (blk_cell BK896.out 1).trans rfl; have hfz35_0 := blk_frozen BK896.out 0; have hfz35_1 := blk_frozen BK896.out 1))
     have n0_ : Aside0 (((w32.setCell ⟨gb896, 0, none⟩ (.int .i64 t894)).setCell ⟨gb896, 1, none⟩ (.int .i64 t895)).heap[gb889]? = some (.cells #[.slice A0_0 l0_0.length c0_0, .slice A0_1 l0_1.length c0_1, .slice A0_2 l0_2.length c0_2] 25 (0, 0))) := ⟨by (with_reducible repeat (first | refine blk_drewN ?_ _ | refine blk_drew ?_ | refine blk_alloc ?_ _)); refine blk_far ?_ NB889_896.out _; (with_reducible repeat (first | refine blk_drewN ?_ _ | refine blk_drew ?_ | refine blk_alloc ?_ _)); refine blk_far ?_ NB889_896.out _; (with_reducible repeat (first | refine blk_drewN ?_ _ | refine blk_drew ?_ | refine blk_alloc ?_ _)); exact BK889.out⟩
     have n1_ : Aside0 (((w32.setCell ⟨gb896, 0, none⟩ (.int .i64 t894)).setCell ⟨gb896, 1, none⟩ (.int .i64 t895)).heap[gb890]? = some (.cells #[.int .i64 0, .int .i64 0] 27 (0, 0))) := ⟨by (with_reducible repeat (first | refine blk_drewN ?_ _ | refine blk_drew ?_ | refine blk_alloc ?_ _)); refine blk_far ?_ NB890_896.out _; (with_reducible repeat (first | refine blk_drewN ?_ _ | refine blk_drew ?_ | refine blk_alloc ?_ _)); refine blk_far ?_ NB890_896.out _; (with_reducible repeat (first | refine blk_drewN ?_ _ | refine blk_drew ?_ | refine blk_alloc ?_ _)); exact BK890.out⟩
     have n2_ : Aside0 (((w32.setCell ⟨gb896, 0, none⟩ (.int .i64 t894)).setCell ⟨gb896, 1, none⟩ (.int .i64 t895)).heap[gb896]? = some (.cells #[.int .i64 t894, .int .i64 t895] 131 (0, 0))) := ⟨by (with_reducible repeat (first | refine blk_drewN ?_ _ | refine blk_drew ?_ | refine blk_alloc ?_ _)); refine blk_put (cs := #[.int .i64 t894, .int .i64 0]) ?_ 1 _ rfl; (with_reducible repeat (first | refine blk_drewN ?_ _ | refine blk_drew ?_ | refine blk_alloc ?_ _)); refine blk_put (cs := #[.int .i64 0, .int .i64 0]) ?_ 0 _ rfl; (with_reducible repeat (first | refine blk_drewN ?_ _ | refine blk_drew ?_ | refine blk_alloc ?_ _)); exact BK896.out⟩
     have n3_ : Aside0 (Below w.heap.size w ((w32.setCell ⟨gb896, 0, none⟩ (.int .i64 t894)).setCell ⟨gb896, 1, none⟩ (.int .i64 t895))) := ⟨bl_ HB.out⟩
     (try clear BK889)
     (try clear BK890)
     (try clear BK896)
     (try clear HB)
     generalize ((w32.setCell ⟨gb896, 0, none⟩ (.int .i64 t894)).setCell ⟨gb896, 1, none⟩ (.int .i64 t895)) = w36 at n0_ n1_ n2_ n3_ ⊢
     have BK889 := n0_
     have BK890 := n1_
     have BK896 := n2_
     have HB := n3_
     clear n0_ n1_ n2_ n3_
     have n0_ := Aside0.mk (blk_drew BK889.out)
     have n1_ := Aside0.mk (blk_drew BK890.out)
     have n2_ := Aside0.mk (blk_drew BK896.out)
     have n3_ := Aside0.mk (below_drew1 HB.out)
     clear BK889 BK890 BK896 HB
     have BK889 := n0_
     have BK890 := n1_
     have BK896 := n2_
     have HB := n3_
     clear n0_ n1_ n2_ n3_
     refine start_ (n := 13) (S := fun w' => w'.cell? ⟨gb896, 0, none⟩ = some (.int .i64 t894) ∧ w'.cell? ⟨gb896, 1, none⟩ = some (.int .i64 t895)) (ds := []) #[false, false, false, false, false, false, false, false, false, false, false, false, false] (by kernel_rfl) rfl rfl ⟨(blk_cell BK896.out 0).trans rfl, (blk_cell BK896.out 1).trans rfl⟩ (fun hHeld => ?_); refine with_tabW spans_At.tab7 spans_At.bits7 (fun HT_ HW_ => ?_)
     generalize w36.drew = w37 at BK889 BK890 BK896 HB hHeld ⊢
     refine pure_ (i := 0) (N := some 37) (v := ?_) (a' := ?_) #[true, false, false, false, false, false, false, false, false, false, false, false, false] rfl rfl (any_of HT_.out (by kernel_rfl)) (fun _ _ _ h => h) (Or.inl ⟨by rfl, ?_⟩) ?_ ?_
     rotate_left
     ·
      intro w'
      go_simp
      with_reducible rfl
     rotate_left
     ·
      simp only [Act.put, List.setIfInBounds_toArray, List.set_cons_zero, List.set_cons_succ, i64_w, i32_w]
      rfl
     refine pure_ (i := 2) (N := some 39) (v := ?_) (a' := ?_) #[true, false, true, false, false, false, false, false, false, false, false, false, false] rfl rfl (any_of HT_.out (by kernel_rfl)) (fun _ _ _ h => h) (Or.inl ⟨by rfl, ?_⟩) ?_ ?_
     rotate_left
     ·
      intro w'
      go_simp
      with_reducible rfl
     rotate_left
     ·
      simp only [Act.put, List.setIfInBounds_toArray, List.set_cons_zero, List.set_cons_succ, i64_w, i32_w]
      rfl
     refine pure_ (i := 5) (N := some 42) (v := ?_) (a' := ?_) #[true, false, true, false, false, true, false, false, false, false, false, false, false] rfl rfl (any_of HT_.out (by kernel_rfl)) (fun _ _ _ h => h) (Or.inl ⟨by rfl, ?_⟩) ?_ ?_
     rotate_left
     ·
      intro w'
      go_simp
      with_reducible rfl
     rotate_left
     ·
      simp only [Act.put, List.setIfInBounds_toArray, List.set_cons_zero, List.set_cons_succ, i64_w, i32_w]
      rfl
     refine pure_ (i := 7) (N := some 44) (v := ?_) (a' := ?_) #[true, false, true, false, false, true, false, true, false, false, false, false, false] rfl rfl (any_of HT_.out (by kernel_rfl)) (fun _ _ _ h => h) (Or.inl ⟨by rfl, ?_⟩) ?_ ?_
     rotate_left
     ·
      intro w'
      go_simp
      with_reducible rfl
     rotate_left
     ·
      simp only [Act.put, List.setIfInBounds_toArray, List.set_cons_zero, List.set_cons_succ, i64_w, i32_w]
      rfl
     refine take_ (i := 1) (N := some 38) (v := ?_) (a' := ?_) #[true, true, true, false, false, true, false, true, false, false, false, false, false] rfl rfl (take_ofW HT_.out HW_.out (by kernel_rfl)) (fun _ _ _ h => h) (Or.inl ⟨by rfl, ?_⟩) hHeld ?_ ?_
     rotate_left
     ·
      rintro w' ⟨s0, s1⟩
      go_simp
      with_reducible rfl
     rotate_left
     ·
      simp only [Act.put, List.setIfInBounds_toArray, List.set_cons_zero, List.set_cons_succ, i64_w, i32_w]
      rfl
     refine take_ (i := 3) (N := some 40) (v := ?_) (a' := ?_) #[true, true, true, true, false, true, false, true, false, false, false, false, false] rfl rfl (take_ofW HT_.out HW_.out (by kernel_rfl)) (fun _ _ _ h => h) (Or.inl ⟨by rfl, ?_⟩) hHeld ?_ ?_
     rotate_left
     ·
      rintro w' ⟨s0, s1⟩
      go_simp
      with_reducible rfl
     rotate_left
     ·
      simp only [Act.put, List.setIfInBounds_toArray, List.set_cons_zero, List.set_cons_succ, i64_w, i32_w]
      rfl
     refine take_ (i := 6) (N := some 43) (v := ?_) (a' := ?_) #[true, true, true, true, false, true, true, true, false, false, false, false, false] rfl rfl (take_ofW HT_.out HW_.out (by kernel_rfl)) (fun _ _ _ h => h) (Or.inl ⟨by rfl, ?_⟩) hHeld ?_ ?_
     rotate_left
     ·
      rintro w' ⟨s0, s1⟩
      go_simp
      with_reducible rfl
     rotate_left
     ·
      simp only [Act.put, List.setIfInBounds_toArray, List.set_cons_zero, List.set_cons_succ, i64_w, i32_w]
      rfl
     refine take_ (i := 8) (N := some 45) (v := ?_) (a' := ?_) #[true, true, true, true, false, true, true, true, true, false, false, false, false] rfl rfl (take_ofW HT_.out HW_.out (by kernel_rfl)) (fun _ _ _ h => h) (Or.inl ⟨by rfl, ?_⟩) hHeld ?_ ?_
     rotate_left
     ·
      rintro w' ⟨s0, s1⟩
      go_simp
      with_reducible rfl
     rotate_left
     ·
      simp only [Act.put, List.setIfInBounds_toArray, List.set_cons_zero, List.set_cons_succ, i64_w, i32_w]
      rfl
     refine one_ (i := 4) (N := some 41) #[true, true, true, true, true, true, true, true, true, false, false, false, false] rfl rfl (one_of HT_.out (by kernel_rfl)) (by decide) (fun K hK => ?_)
     refine goes_ Try.func100 (by kernel_rfl) rfl #[.int .i64 t894, .int .i64 t895] (by rfl) rfl rfl (by (try simp only [List.map_toArray, List.map_cons, List.map_nil]); first | done | rfl | (simp only [List.length_drop, List.length_take]; rfl)) ?_
     with_reducible refine (spans_floor.calls t894 t895 t897 _ A27.out).mono ?_
     rintro e w' ⟨rfl, ⟨nd, rfl⟩⟩
     refine ⟨_, rfl, ?_⟩
     refine hK.out _ _ ⟨(blk_cell BK896.out 0).trans rfl, (blk_cell BK896.out 1).trans rfl⟩ (fun hHeld => ?_)
     clear hK K
     refine norm_ (a' := ?_) ?_ ?_
     rotate_left
     ·
      show Act.put _ (some 41) _ = _
      simp only [Act.put, List.setIfInBounds_toArray, List.set_cons_zero, List.set_cons_succ, i64_w, i32_w]
      rfl
     refine one_ (i := 9) (N := some 46) #[true, true, true, true, true, true, true, true, true, true, false, false, false] rfl rfl (one_of HT_.out (by kernel_rfl)) (by decide) (fun K hK => ?_)
     refine goes_ Try.func106 (by kernel_rfl) rfl #[.int .i64 t894, .int .i64 t895] (by rfl) rfl rfl (by (try simp only [List.map_toArray, List.map_cons, List.map_nil]); first | done | rfl | (simp only [List.length_drop, List.length_take]; rfl)) ?_
     with_reducible refine (spans_ceil.calls t894 t895 t898 _ A28.out).mono ?_
     rintro e w' ⟨rfl, ⟨nd, rfl⟩⟩
     refine ⟨_, rfl, ?_⟩
     refine hK.out _ _ ⟨(blk_cell BK896.out 0).trans rfl, (blk_cell BK896.out 1).trans rfl⟩ (fun hHeld => ?_)
     clear hK K
     refine norm_ (a' := ?_) ?_ ?_
     rotate_left
     ·
      show Act.put _ (some 46) _ = _
      simp only [Act.put, List.setIfInBounds_toArray, List.set_cons_zero, List.set_cons_succ, i64_w, i32_w]
      rfl
     refine pure_ (i := 10) (N := some 47) (v := ?_) (a' := ?_) #[true, true, true, true, true, true, true, true, true, true, true, false, false] rfl rfl (any_of HT_.out (by kernel_rfl)) (fun _ _ _ h => h) (Or.inl ⟨by rfl, ?_⟩) ?_ ?_
     rotate_left
     ·
      intro w'
      go_simp
      with_reducible rfl
     rotate_left
     ·
      simp only [Act.put, List.setIfInBounds_toArray, List.set_cons_zero, List.set_cons_succ, i64_w, i32_w]
      rfl
     refine one_ (i := 11) (N := none) #[true, true, true, true, true, true, true, true, true, true, true, true, false] rfl rfl (one_of HT_.out (by kernel_rfl)) (by decide) (fun K hK => ?_)
     have hs38 : w37.cell? ⟨gb890, 0, none⟩ = some (.int .i64 0) := (blk_cell BK890.out 0).trans rfl
     have hfs38 := blk_frozen BK890.out 0
     have hns38_0 := NB889_890.out
     have hns38_2 := NB896_890.out
     have hms38_0 := NB890_889.out
     have hms38_2 := NB890_896.out
     have hs39 : w37.cell? ⟨gb890, 1, none⟩ = some (.int .i64 0) := (blk_cell BK890.out 1).trans rfl
     have hfs39 := blk_frozen BK890.out 1
     have hns39_0 := NB889_890.out
     have hns39_2 := NB896_890.out
     have hms39_0 := NB890_889.out
     have hms39_2 := NB890_896.out
     refine skip_ (w1 := ?_) (by rfl) rfl ?_ ?_
     rotate_left
     ·
      go_simp
      rfl
     refine hK.out _ _ ⟨((cell_far (p := ⟨gb890, _, none⟩) NB896_890.out _).trans (((cell_far (p := ⟨gb890, _, none⟩) NB896_890.out _).trans (hHeld.1)))), ((cell_far (p := ⟨gb890, _, none⟩) NB896_890.out _).trans (((cell_far (p := ⟨gb890, _, none⟩) NB896_890.out _).trans (hHeld.2))))⟩ (fun hHeld => ?_)
     clear hK K
     refine pure_ (i := 12) (N := some 7) (v := ?_) (a' := ?_) #[true, true, true, true, true, true, true, true, true, true, true, true, true] rfl rfl (any_of HT_.out (by kernel_rfl)) (fun _ _ _ h => h) (Or.inl ⟨by rfl, ?_⟩) ?_ ?_
     rotate_left
     ·
      intro w'
      go_simp
      with_reducible rfl
     rotate_left
     ·
      simp only [Act.put, List.setIfInBounds_toArray, List.set_cons_zero, List.set_cons_succ, i64_w, i32_w]
      rfl
     refine done_ (done_of HT_.out (by kernel_rfl)) ?_
     try go_wp2
     refine bodyPost_ret (results_ct rfl _ _ gb890 27 #[.int .i64 t897, .int .i64 t898] (0, 0) _ rfl (by (with_reducible repeat (first | refine blk_drewN ?_ _ | refine blk_drew ?_ | refine blk_alloc ?_ _)); refine blk_put (cs := #[.int .i64 t897, .int .i64 0]) ?_ 1 _ rfl; (with_reducible repeat (first | refine blk_drewN ?_ _ | refine blk_drew ?_ | refine blk_alloc ?_ _)); refine blk_put (cs := #[.int .i64 0, .int .i64 0]) ?_ 0 _ rfl; (with_reducible repeat (first | refine blk_drewN ?_ _ | refine blk_drew ?_ | refine blk_alloc ?_ _)); exact BK890.out) Try.underlying27 rfl (by kernel_rfl)) rfl ?_
     exact ⟨by first | rfl | (simp [errW_none, errW_some] <;> rfl) | (simp [*, errW_none, errW_some] <;> rfl), bl_ HB.out⟩
 ·
  rw [if_neg c5] at H
  have c5b0 : (t891 == 0) = false := beq_eq_false_iff_ne.mpr c5
  have c5b1 : (t891 != 0) = true := bne_iff_ne.mpr c5
  simp only [Option.some.injEq, Prod.mk.injEq] at H
  obtain ⟨rfl, rfl, rfl⟩ := H
  go_enter Try.func34, Try.ntmps34
  go_wp2_with (first | ((with_reducible refine gate_dst (N := 3) rfl ?_); refine box_event ?hg (N := 3) ?hd (cs := #[.slice A0_0 l0_0.length c0_0, .slice A0_1 l0_1.length c0_1, .slice A0_2 l0_2.length c0_2]) (t := 25) ?hr ?_; (case hd => rfl); (case hg => rfl); (case hr => first | (go_simp; done) | (go_simp; rfl)); intro gb889 hg w40 hbox hb; have n0_ := Aside0.mk (below_step (bl_ HB.out) hb); have n1_ := Aside0.mk (hbox); have n2_ := Aside0.mk (szl_ hg HB.out); have n3_ := Aside0.mk (szl_ hg HB.out); clear HB; have HB := n0_; have BK889 := n1_; have GW889 := n2_; have GE889 := n3_; clear n0_ n1_ n2_ n3_ hb hbox hg) | ((with_reducible refine gate_dst (N := 6) rfl ?_); refine box_event ?hg (N := 6) ?hd (cs := #[.int .i64 0, .int .i64 0]) (t := 27) ?hr ?_; (case hd => rfl); (case hg => rfl); (case hr => first | (go_simp; done) | (go_simp; rfl)); intro gb890 hg w41 hbox hb; have n0_ := Aside0.mk (blk_below (bk_ BK889.out) hb); have n1_ := Aside0.mk (below_step (bl_ HB.out) hb); have n2_ := Aside0.mk (hbox); have n3_ := Aside0.mk (szl_ hg HB.out); have n4_ := Aside0.mk (szl_ hg HB.out); have n5_ := Aside0.mk (nel_ hg BK889.out); have n6_ := Aside0.mk (ner_ hg BK889.out); clear BK889 HB; have BK889 := n0_; have HB := n1_; have BK890 := n2_; have GW890 := n3_; have GE890 := n4_; have NB889_890 := n5_; have NB890_889 := n6_; clear n0_ n1_ n2_ n3_ n4_ n5_ n6_ hb hbox hg; have hnb42 := NB889_890.out; have hnc42 := NB890_889.out; have hcz43_0 : w41.cell? ⟨gb889, 0, none⟩ = some (.slice A0_0 l0_0.length c0_0) := (blk_cell BK889.out 0).trans rfl; have hcz43_1 : w41.cell? ⟨gb889, 1, none⟩ = some (.slice A0_1 l0_1.length c0_1) := (blk_cell BK889.out 1).trans rfl; have hcz43_2 : w41.cell? ⟨gb889, 2, none⟩ = some (.slice A0_2 l0_2.length c0_2) := (blk_cell BK889.out 2).trans rfl; have hfz43_0 := blk_frozen BK889.out 0; have hfz43_1 := blk_frozen BK889.out 1; have hfz43_2 := blk_frozen BK889.out 2) | ((with_reducible refine gate_callee (f := 29) rfl ?_); refine goesL_ (some 11) rfl rfl Try.func29 (by kernel_rfl) rfl #[.agg #[.slice A0_0 l0_0.length c0_0, .slice A0_1 l0_1.length c0_1, .slice A0_2 l0_2.length c0_2]] rfl (by (try simp only [List.map_toArray, List.map_cons, List.map_nil]); first | done | rfl | (simp only [List.length_drop, List.length_take]; rfl)) ?_; (with_reducible refine (spans_CheckTable.calls _ _ l0_0 _ _ l0_1 _ _ l0_2 t891 _ ?side1 ?side2 ?side3 ?side4 ?side5 ?side6 A4.out).mono ?_); (case side1 => exact cr_ (Kd.C_below HR0_0.out HB.out)); (case side2 => exact HC0_0.out); (case side3 => exact cr_ (Kd.C_below HR0_1.out HB.out)); (case side4 => exact HC0_1.out); (case side5 => exact cr_ (Kd.C_below HR0_2.out HB.out)); (case side6 => exact HC0_2.out); rintro e w44 ⟨rfl, hb⟩; refine ⟨_, rfl, ?_⟩; have n0_ := Aside0.mk (blk_below (bk_ BK889.out) hb); have n1_ := Aside0.mk (blk_below (bk_ BK890.out) hb); have n2_ := Aside0.mk (below_step (bl_ HB.out) hb); clear BK889 BK890 HB; have BK889 := n0_; have BK890 := n1_; have HB := n2_; clear n0_ n1_ n2_; (try clear hb); (try clear hb2); (try clear hk); (try clear hi); have hcz45_0 : w44.cell? ⟨gb890, 0, none⟩ = some (.int .i64 0) := (blk_cell BK890.out 0).trans rfl; have hcz45_1 : w44.cell? ⟨gb890, 1, none⟩ = some (.int .i64 0) := (blk_cell BK890.out 1).trans rfl; have hfz45_0 := blk_frozen BK890.out 0; have hfz45_1 := blk_frozen BK890.out 1))
  refine bodyPost_ret (results_ct rfl _ _ gb890 27 #[.int .i64 0, .int .i64 0] (0, 0) _ rfl (by (with_reducible repeat (first | refine blk_drewN ?_ _ | refine blk_drew ?_ | refine blk_alloc ?_ _)); refine blk_put (cs := #[.int .i64 0, .int .i64 0]) ?_ 1 _ rfl; (with_reducible repeat (first | refine blk_drewN ?_ _ | refine blk_drew ?_ | refine blk_alloc ?_ _)); refine blk_put (cs := #[.int .i64 0, .int .i64 0]) ?_ 0 _ rfl; (with_reducible repeat (first | refine blk_drewN ?_ _ | refine blk_drew ?_ | refine blk_alloc ?_ _)); exact BK890.out) Try.underlying27 rfl (by kernel_rfl)) rfl ?_
  exact ⟨by first | rfl | (simp [errW_none, errW_some] <;> rfl) | (simp [*, errW_none, errW_some] <;> rfl), bl_ HB.out⟩
end Go.Proofs.Yteodlmgmmpkpoaa.PS
end
section
namespace Go.Proofs.Yteodlmgmmpkpoaa.PS
open Go.RowKit Go.Proofs.YteodlmgmmpkpoaaW.PrintWords Go.Proofs.YteodlmgmmpkpoaaW.PrintLast Go.Proofs.YteodlmgmmpkpoaaW.PrintMore
set_option linter.unusedVariables false
def atR (X Y : List Int) (V : List (List Int)) (x y : Int) : Int × Int × Int :=
  if tableB X Y V then (if onB X x x && onB Y y y then (flP (ptAt X Y V x y), ceP (ptAt X Y V x y), 0) else (0, 0, 1)) else (0, 0, 11)
theorem good_ce {p : Pt} (h : GoodP p) : spans_ceil.f p.n p.d = some (ceP p) := by
  obtain ⟨h1, h2, h3, h4⟩ := h
  exact ceil_total _ _ h1 (by omega) (by omega)
theorem at_total (X Y : List Int) (V : List (List Int)) (x y : Int) (k : Nat) (hk : 0 < k) : spans_At.f k X Y V x y = some (atR X Y V x y) := by
  obtain ⟨k, rfl⟩ : ∃ m, k = m + 1 := ⟨k - 1, by omega⟩
  unfold spans_At.f atR spans_CheckTable.f
  simp only [spans_At.j0]
  rw [Option.bind_some]
  cases ht : tableB X Y V with
  | false => rfl
  | true =>
    obtain ⟨⟨x0, x1⟩, y0, y1⟩ := tb_lens ht
    rw [if_pos rfl, if_pos rfl, if_pos rfl, lies_total x0 (by omega), Option.bind_some, lies_total y0 (by omega), Option.bind_some]
    cases hx : onB X x x with
    | false => rfl
    | true =>
      cases hy : onB Y y y with
      | false => rfl
      | true =>
        have hg := good_at ht hx hy
        unfold spans_at.f
        rw [ht, hx, hy, if_pos rfl, if_neg (by simp), if_pos (by rfl), if_pos (by rfl), Option.bind_some]
        dsimp only
        rw [good_fl hg, Option.bind_some, good_ce hg]
        rfl
end Go.Proofs.Yteodlmgmmpkpoaa.PS
end
section
namespace Go.Proofs.Yteodlmgmmpkpoaa.PS
open Go.RowKit Go.Proofs.YteodlmgmmpkpoaaW.PrintWords Go.Proofs.YteodlmgmmpkpoaaW.PrintLast Go.Proofs.YteodlmgmmpkpoaaW.PrintMore
attribute [local go_sem] max2_int min2_int max_two min_two max_three min_three max_four min_four   -- for this text's walks alone
set_option linter.unusedVariables false
set_option linter.unusedSimpArgs false
def swashplatelaw01_within.f (a0 : Int) (a1_0 : Int) (a1_1 : Int) : Option (Int) := if (wrap64 ((wrap64 (a1_1 - a1_0)) + 1)) = 0 then (none) else (some (wrap64 (a1_0 + (Int.tmod (wrap64 ((Int.tmod a0 (wrap64 ((wrap64 (a1_1 - a1_0)) + 1))) + (wrap64 ((wrap64 (a1_1 - a1_0)) + 1)))) (wrap64 ((wrap64 (a1_1 - a1_0)) + 1))))))
set_option maxHeartbeats 8000000 in
set_option maxRecDepth 100000 in
theorem swashplatelaw01_within.calls (a0 : Int) (a1_0 : Int) (a1_1 : Int) (r : Int) (w : World) (h : swashplatelaw01_within.f a0 a1_0 a1_1 = some r) :
  Calls Try.prog 53 #[.int .i64 a0, .agg #[.int .i64 a1_0, .int .i64 a1_1]] w fun e w' => e = .returned (.int .i64 r) ∧ Below w.heap.size w w' := by
 have hu27 := Try.underlying27
 have HB := Aside0.mk (Below.refl w.heap.size w)
 have H : (if (wrap64 ((wrap64 (a1_1 - a1_0)) + 1)) = 0 then (none) else (some (wrap64 (a1_0 + (Int.tmod (wrap64 ((Int.tmod a0 (wrap64 ((wrap64 (a1_1 - a1_0)) + 1))) + (wrap64 ((wrap64 (a1_1 - a1_0)) + 1)))) (wrap64 ((wrap64 (a1_1 - a1_0)) + 1))))))) = some r := h
 clear h
 by_cases c3 : (wrap64 ((wrap64 (a1_1 - a1_0)) + 1)) = 0
 ·
  rw [if_pos c3] at H
  exact absurd H (by simp)
 ·
  rw [if_neg c3] at H
  have c3b0 : ((wrap64 ((wrap64 (a1_1 - a1_0)) + 1)) == 0) = false := beq_eq_false_iff_ne.mpr c3
  have c3b1 : ((wrap64 ((wrap64 (a1_1 - a1_0)) + 1)) != 0) = true := bne_iff_ne.mpr c3
  obtain rfl := Option.some.inj H
  go_enter Try.func53, Try.ntmps53
  go_wp2_with (first | ((with_reducible refine gate_dst (N := 3) rfl ?_); refine box_event ?hg (N := 3) ?hd (cs := #[.int .i64 a1_0, .int .i64 a1_1]) (t := 27) ?hr ?_; (case hd => rfl); (case hg => rfl); (case hr => first | (go_simp; done) | (go_simp; rfl)); intro gb952 hg w4 hbox hb; have n0_ := Aside0.mk (below_step (bl_ HB.out) hb); have n1_ := Aside0.mk (hbox); have n2_ := Aside0.mk (szl_ hg HB.out); have n3_ := Aside0.mk (szl_ hg HB.out); clear HB; have HB := n0_; have BK952 := n1_; have GW952 := n2_; have GE952 := n3_; clear n0_ n1_ n2_ n3_ hb hbox hg; have hcz5_0 : w4.cell? ⟨gb952, 0, none⟩ = some (.int .i64 a1_0) := (blk_cell BK952.out 0).trans rfl; have hcz5_1 : w4.cell? ⟨gb952, 1, none⟩ = some (.int .i64 a1_1) := (blk_cell BK952.out 1).trans rfl; have hfz5_0 := blk_frozen BK952.out 0; have hfz5_1 := blk_frozen BK952.out 1))
  repeat (go_quiet (first | ((with_reducible refine gate_dst (N := 3) rfl ?_); refine box_event ?hg (N := 3) ?hd (cs := #[.int .i64 a1_0, .int .i64 a1_1]) (t := 27) ?hr ?_; (case hd => rfl); (case hg => rfl); (case hr => first | (go_simp; done) | (go_simp; rfl)); intro gb952 hg w4 hbox hb; have n0_ := Aside0.mk (below_step (bl_ HB.out) hb); have n1_ := Aside0.mk (hbox); have n2_ := Aside0.mk (szl_ hg HB.out); have n3_ := Aside0.mk (szl_ hg HB.out); clear HB; have HB := n0_; have BK952 := n1_; have GW952 := n2_; have GE952 := n3_; clear n0_ n1_ n2_ n3_ hb hbox hg; have hcz5_0 : w4.cell? ⟨gb952, 0, none⟩ = some (.int .i64 a1_0) := (blk_cell BK952.out 0).trans rfl; have hcz5_1 : w4.cell? ⟨gb952, 1, none⟩ = some (.int .i64 a1_1) := (blk_cell BK952.out 1).trans rfl; have hfz5_0 := blk_frozen BK952.out 0; have hfz5_1 := blk_frozen BK952.out 1)); try go_wp2_with (first | ((with_reducible refine gate_dst (N := 3) rfl ?_); refine box_event ?hg (N := 3) ?hd (cs := #[.int .i64 a1_0, .int .i64 a1_1]) (t := 27) ?hr ?_; (case hd => rfl); (case hg => rfl); (case hr => first | (go_simp; done) | (go_simp; rfl)); intro gb952 hg w4 hbox hb; have n0_ := Aside0.mk (below_step (bl_ HB.out) hb); have n1_ := Aside0.mk (hbox); have n2_ := Aside0.mk (szl_ hg HB.out); have n3_ := Aside0.mk (szl_ hg HB.out); clear HB; have HB := n0_; have BK952 := n1_; have GW952 := n2_; have GE952 := n3_; clear n0_ n1_ n2_ n3_ hb hbox hg; have hcz5_0 : w4.cell? ⟨gb952, 0, none⟩ = some (.int .i64 a1_0) := (blk_cell BK952.out 0).trans rfl; have hcz5_1 : w4.cell? ⟨gb952, 1, none⟩ = some (.int .i64 a1_1) := (blk_cell BK952.out 1).trans rfl; have hfz5_0 := blk_frozen BK952.out 0; have hfz5_1 := blk_frozen BK952.out 1)))
  go_ret
  exact ⟨by first | rfl | (simp [errW_none, errW_some] <;> rfl) | (simp [*, errW_none, errW_some] <;> rfl), bl_ HB.out⟩
end Go.Proofs.Yteodlmgmmpkpoaa.PS
end
section
namespace Go.Proofs.Yteodlmgmmpkpoaa.PS
open Go.RowKit Go.Proofs.YteodlmgmmpkpoaaW.PrintWords Go.Proofs.YteodlmgmmpkpoaaW.PrintLast Go.Proofs.YteodlmgmmpkpoaaW.PrintMore
set_option linter.unusedVariables false
theorem tmod_bd (n d : Int) (hd : 0 < d) : -d < Int.tmod n d ∧ Int.tmod n d < d := by
  have h1 := Int.emod_nonneg n (show d ≠ 0 by omega)
  have h2 := Int.emod_lt_of_pos n hd
  rw [Int.tmod_eq_emod]
  split <;> omega
theorem tmod_nn (n d : Int) (hd : 0 < d) (hn : 0 ≤ n) : 0 ≤ Int.tmod n d ∧ Int.tmod n d < d := by
  rw [Int.tmod_eq_emod_of_nonneg hn]
  exact ⟨Int.emod_nonneg n (by omega), Int.emod_lt_of_pos n hd⟩
theorem into_total (n lo hi : Int) (h1 : -1000000 ≤ lo) (h2 : lo ≤ hi) (h3 : hi ≤ 1000000) : ∃ x, swashplatelaw01_within.f n lo hi = some x ∧ lo ≤ x ∧ x ≤ hi := by
  unfold swashplatelaw01_within.f
  rw [wr64 (n := hi - lo) (by omega) (by omega), wr64 (n := hi - lo + 1) (by omega) (by omega), if_neg (by omega)]
  have t1 := tmod_bd n (hi - lo + 1) (by omega)
  obtain ⟨m, hm⟩ : ∃ m, Int.tmod n (hi - lo + 1) = m := ⟨_, rfl⟩
  rw [hm] at t1 ⊢
  rw [wr64 (n := m + (hi - lo + 1)) (by omega) (by omega)]
  have t2 := tmod_nn (m + (hi - lo + 1)) (hi - lo + 1) (by omega) (by omega)
  obtain ⟨q, hq⟩ : ∃ q, Int.tmod (m + (hi - lo + 1)) (hi - lo + 1) = q := ⟨_, rfl⟩
  rw [hq] at t2 ⊢
  rw [wr64 (n := lo + q) (by omega) (by omega)]
  exact ⟨_, rfl, by omega, by omega⟩
end Go.Proofs.Yteodlmgmmpkpoaa.PS
end
section
namespace Go.Proofs.Yteodlmgmmpkpoaa.PS
open Go.RowKit Go.Proofs.YteodlmgmmpkpoaaW.PrintWords Go.Proofs.YteodlmgmmpkpoaaW.PrintLast Go.Proofs.YteodlmgmmpkpoaaW.PrintMore
attribute [local go_sem] max2_int min2_int max_two min_two max_three min_three max_four min_four   -- for this text's walks alone
set_option linter.unusedVariables false
set_option linter.unusedSimpArgs false
mutual
def swashplatelaw01_SpansInside.j0 : Nat → Bool → List Int → List Int → List (List Int) → Int → Int → Int → Int → Int → Int → Int → Int → Int → Int → Option (Bool)
 | 0, _, _, _, _, _, _, _, _, _, _, _, _, _, _ => none
 | k + 1, x35, x958000, x958001, x958002, x959000, x959001, x959002, x959003, x959004, x959005, x959006, x959007, x959008, x959009 => if x35 = true then ((swashplatelaw01_works.f k).bind fun t961 => (some t961)) else ((swashplateref01_Copy.f k x958000 x958001 x958002).bind fun bt962 => ((spans_Bound.f bt962.1 bt962.2.1 bt962.2.2 x959000 x959001 x959002 x959003).bind fun bt972 => ((swashplatelaw01_within.f x959004 x959000 x959001).bind fun t976 => ((swashplatelaw01_within.f x959005 x959002 x959003).bind fun t977 => ((spans_At.f k bt962.1 bt962.2.1 bt962.2.2 t976 t977).bind fun bt978 => ((spans_Worst.f bt962.1 bt962.2.1 bt962.2.2 x959000 x959001 x959002 x959003).bind fun bt982 => (if bt972.2.2 = 0 then (if bt978.2.2 = 0 then (if bt982.2.2 = 0 then (if bt978.1 < bt972.1 then (swashplatelaw01_SpansInside.j1 k bt982.1 bt982.2.1 true x959000 x959001 x959002 x959003 x959004 x959005 x959006 x959007 x959008 x959009 bt962.1 bt962.2.1 bt962.2.2 bt972.1 bt972.2.1) else (swashplatelaw01_SpansInside.j1 k bt982.1 bt982.2.1 (decide (bt978.2.1 > bt972.2.1)) x959000 x959001 x959002 x959003 x959004 x959005 x959006 x959007 x959008 x959009 bt962.1 bt962.2.1 bt962.2.2 bt972.1 bt972.2.1)) else (swashplatelaw01_SpansInside.j1 k bt982.1 bt982.2.1 true x959000 x959001 x959002 x959003 x959004 x959005 x959006 x959007 x959008 x959009 bt962.1 bt962.2.1 bt962.2.2 bt972.1 bt972.2.1)) else (swashplatelaw01_SpansInside.j1 k bt982.1 bt982.2.1 true x959000 x959001 x959002 x959003 x959004 x959005 x959006 x959007 x959008 x959009 bt962.1 bt962.2.1 bt962.2.2 bt972.1 bt972.2.1)) else (swashplatelaw01_SpansInside.j1 k bt982.1 bt982.2.1 true x959000 x959001 x959002 x959003 x959004 x959005 x959006 x959007 x959008 x959009 bt962.1 bt962.2.1 bt962.2.2 bt972.1 bt972.2.1))))))))
def swashplatelaw01_SpansInside.j1 : Nat → Int → Int → Bool → Int → Int → Int → Int → Int → Int → Int → Int → Int → Int → List Int → List Int → List (List Int) → Int → Int → Option (Bool)
 | 0, _, _, _, _, _, _, _, _, _, _, _, _, _, _, _, _, _, _ => none
 | k + 1, x12, x13, x106, x959000, x959001, x959002, x959003, x959004, x959005, x959006, x959007, x959008, x959009, x972000, x972001, x972002, x976000, x976001 => if x106 = true then (some false) else ((spans_At.f k x972000 x972001 x972002 x12 x13).bind fun bt985 => (if bt985.2.2 = 0 then (if bt985.2.1 = x976001 then (if x12 < x959000 then (swashplatelaw01_SpansInside.j2 k true x959000 x959001 x959002 x959003 x959004 x959005 x959006 x959007 x959008 x959009 x972000 x972001 x972002 x976000 x976001) else (if x12 > x959001 then (swashplatelaw01_SpansInside.j2 k true x959000 x959001 x959002 x959003 x959004 x959005 x959006 x959007 x959008 x959009 x972000 x972001 x972002 x976000 x976001) else (if x13 < x959002 then (swashplatelaw01_SpansInside.j2 k true x959000 x959001 x959002 x959003 x959004 x959005 x959006 x959007 x959008 x959009 x972000 x972001 x972002 x976000 x976001) else (swashplatelaw01_SpansInside.j2 k (decide (x13 > x959003)) x959000 x959001 x959002 x959003 x959004 x959005 x959006 x959007 x959008 x959009 x972000 x972001 x972002 x976000 x976001)))) else (swashplatelaw01_SpansInside.j2 k true x959000 x959001 x959002 x959003 x959004 x959005 x959006 x959007 x959008 x959009 x972000 x972001 x972002 x976000 x976001)) else (swashplatelaw01_SpansInside.j2 k true x959000 x959001 x959002 x959003 x959004 x959005 x959006 x959007 x959008 x959009 x972000 x972001 x972002 x976000 x976001)))
def swashplatelaw01_SpansInside.j2 : Nat → Bool → Int → Int → Int → Int → Int → Int → Int → Int → Int → Int → List Int → List Int → List (List Int) → Int → Int → Option (Bool)
 | 0, _, _, _, _, _, _, _, _, _, _, _, _, _, _, _, _ => none
 | k + 1, x154, x959000, x959001, x959002, x959003, x959004, x959005, x959006, x959007, x959008, x959009, x972000, x972001, x972002, x976000, x976001 => if x154 = true then (some false) else ((swashplatelaw01_within.f x959006 x959000 x959001).bind fun t989 => ((swashplatelaw01_within.f x959007 x959000 x959001).bind fun t990 => ((swashplatelaw01_within.f x959008 x959002 x959003).bind fun t991 => ((swashplatelaw01_within.f x959009 x959002 x959003).bind fun t992 => ((spans_Bound.f x972000 x972001 x972002 (mn t989 t990) (mx t989 t990) (mn t991 t992) (mx t991 t992)).bind fun bt993 => (if bt993.2.2 = 0 then (if bt993.1 ≥ x976000 then (if bt993.2.1 ≤ x976001 then ((swashplatelaw01_works.f k).bind fun t997 => (some t997)) else (some false)) else (some false)) else (some false)))))))
end
def swashplatelaw01_SpansInside.f (k : Nat) (l0_0 : List Int) (l0_1 : List Int) (l0_2 : List (List Int)) (a1_0 : Int) (a1_1 : Int) (a1_2 : Int) (a1_3 : Int) (a1_4 : Int) (a1_5 : Int) (a1_6 : Int) (a1_7 : Int) (a1_8 : Int) (a1_9 : Int) : Option (Bool) := (swashplatelaw01_Far.f k l0_0 l0_1 l0_2).bind fun t959 => (if t959 = true then (swashplatelaw01_SpansInside.j0 k true l0_0 l0_1 l0_2 a1_0 a1_1 a1_2 a1_3 a1_4 a1_5 a1_6 a1_7 a1_8 a1_9) else ((swashplateref01_CheckBound.f k l0_0 l0_1 l0_2 a1_0 a1_1 a1_2 a1_3).bind fun t960 => (swashplatelaw01_SpansInside.j0 k (t960 != 0) l0_0 l0_1 l0_2 a1_0 a1_1 a1_2 a1_3 a1_4 a1_5 a1_6 a1_7 a1_8 a1_9)))
def swashplatelaw01_SpansInside.T5 : Bool × List (List Nat × List Nat) := (true, [([], []), ([0], [0]), ([1], [1]), ([], []), ([3], [3]), ([4], [4]), ([2, 5], [2, 5]), ([], []), ([7], [7]), ([8], [8]), ([], []), ([10], [10]), ([11], [11]), ([9, 12, 6], [9, 12]), ([6, 13, 0, 1, 2, 3, 4, 5, 6], [6]), ([13, 14, 0, 1, 2, 3, 4, 5, 6, 7, 8, 9, 10, 11, 12, 13, 14], [13])])
def swashplatelaw01_SpansInside.B5 : List Nat := [0, 1, 3, 0, 8, 24, 63, 0, 128, 384, 0, 1024, 3072, 8191, 16383, 32767]
theorem swashplatelaw01_SpansInside.tab5 : rtab .any (opsOf Try.f10 5) = swashplatelaw01_SpansInside.T5 := by kernel_rfl
theorem swashplatelaw01_SpansInside.bits5 : waitsOk swashplatelaw01_SpansInside.T5.2 swashplatelaw01_SpansInside.B5 = true := by kernel_rfl
def swashplatelaw01_SpansInside.T13 : Bool × List (List Nat × List Nat) := (true, [([], []), ([0], [0]), ([1], [1]), ([], []), ([3], [3]), ([4], [4]), ([2, 5], [2, 5]), ([], []), ([7], [7]), ([8], [8]), ([], []), ([10], [10]), ([11], [11]), ([9, 12, 6], [9, 12]), ([6, 13, 0, 1, 2, 3, 4, 5, 6], [6]), ([13, 14, 0, 1, 2, 3, 4, 5, 6, 7, 8, 9, 10, 11, 12, 13, 14], [13])])
def swashplatelaw01_SpansInside.B13 : List Nat := [0, 1, 3, 0, 8, 24, 63, 0, 128, 384, 0, 1024, 3072, 8191, 16383, 32767]
theorem swashplatelaw01_SpansInside.tab13 : rtab .any (opsOf Try.f10 13) = swashplatelaw01_SpansInside.T13 := by kernel_rfl
theorem swashplatelaw01_SpansInside.bits13 : waitsOk swashplatelaw01_SpansInside.T13.2 swashplatelaw01_SpansInside.B13 = true := by kernel_rfl
def swashplatelaw01_SpansInside.T14 : Bool × List (List Nat × List Nat) := (true, [([], []), ([0], [0]), ([1], [1]), ([], []), ([3], [3]), ([4], [4]), ([2, 5], [2, 5]), ([], []), ([7], [7]), ([8], [8]), ([], []), ([10], [10]), ([11], [11]), ([9, 12, 6], [9, 12]), ([6, 13, 0, 1, 2, 3, 4, 5, 6], [6]), ([13, 14, 0, 1, 2, 3, 4, 5, 6, 7, 8, 9, 10, 11, 12, 13, 14], [13])])
def swashplatelaw01_SpansInside.B14 : List Nat := [0, 1, 3, 0, 8, 24, 63, 0, 128, 384, 0, 1024, 3072, 8191, 16383, 32767]
theorem swashplatelaw01_SpansInside.tab14 : rtab .any (opsOf Try.f10 14) = swashplatelaw01_SpansInside.T14 := by kernel_rfl
theorem swashplatelaw01_SpansInside.bits14 : waitsOk swashplatelaw01_SpansInside.T14.2 swashplatelaw01_SpansInside.B14 = true := by kernel_rfl
theorem swashplatelaw01_SpansInside.j1_true {k : Nat} {x12 : Int} {x13 : Int} {x959000 : Int} {x959001 : Int} {x959002 : Int} {x959003 : Int} {x959004 : Int} {x959005 : Int} {x959006 : Int} {x959007 : Int} {x959008 : Int} {x959009 : Int} {x972000 : List Int} {x972001 : List Int} {x972002 : List (List Int)} {x976000 : Int} {x976001 : Int} {r : Bool} (h : swashplatelaw01_SpansInside.j1 k x12 x13 true x959000 x959001 x959002 x959003 x959004 x959005 x959006 x959007 x959008 x959009 x972000 x972001 x972002 x976000 x976001 = some r) : r = false := by
 cases k with
 | zero => simp [swashplatelaw01_SpansInside.j1] at h
 | succ k => simp only [swashplatelaw01_SpansInside.j1] at h; rw [if_pos trivial] at h; exact (Option.some.inj h).symm
theorem swashplatelaw01_SpansInside.j2_true {k : Nat} {x959000 : Int} {x959001 : Int} {x959002 : Int} {x959003 : Int} {x959004 : Int} {x959005 : Int} {x959006 : Int} {x959007 : Int} {x959008 : Int} {x959009 : Int} {x972000 : List Int} {x972001 : List Int} {x972002 : List (List Int)} {x976000 : Int} {x976001 : Int} {r : Bool} (h : swashplatelaw01_SpansInside.j2 k true x959000 x959001 x959002 x959003 x959004 x959005 x959006 x959007 x959008 x959009 x972000 x972001 x972002 x976000 x976001 = some r) : r = false := by
 cases k with
 | zero => simp [swashplatelaw01_SpansInside.j2] at h
 | succ k => simp only [swashplatelaw01_SpansInside.j2] at h; rw [if_pos trivial] at h; exact (Option.some.inj h).symm
set_option maxHeartbeats 8000000 in
set_option maxRecDepth 100000 in
theorem swashplatelaw01_SpansInside.calls (k : Nat) (A0_0 : Option Addr) (c0_0 : Nat) (l0_0 : List Int) (A0_1 : Option Addr) (c0_1 : Nat) (l0_1 : List Int) (A0_2 : Option Addr) (c0_2 : Nat) (l0_2 : List (List Int)) (a1_0 : Int) (a1_1 : Int) (a1_2 : Int) (a1_3 : Int) (a1_4 : Int) (a1_5 : Int) (a1_6 : Int) (a1_7 : Int) (a1_8 : Int) (a1_9 : Int) (r : Bool) (w : World) (hr0_0 : Kd.C (Kd.int .i64) w A0_0 l0_0.length l0_0) (hc0_0 : l0_0.length ≤ c0_0) (hr0_1 : Kd.C (Kd.int .i64) w A0_1 l0_1.length l0_1) (hc0_1 : l0_1.length ≤ c0_1) (hr0_2 : Kd.C (Kd.slice 3 (Kd.int .i64)) w A0_2 l0_2.length l0_2) (hc0_2 : l0_2.length ≤ c0_2) (h : swashplatelaw01_SpansInside.f k l0_0 l0_1 l0_2 a1_0 a1_1 a1_2 a1_3 a1_4 a1_5 a1_6 a1_7 a1_8 a1_9 = some r) (hrT : Aside0 (r = true)) :
  Calls Try.prog 10 #[.agg #[.slice A0_0 l0_0.length c0_0, .slice A0_1 l0_1.length c0_1, .slice A0_2 l0_2.length c0_2], .agg #[.int .i64 a1_0, .int .i64 a1_1, .int .i64 a1_2, .int .i64 a1_3, .int .i64 a1_4, .int .i64 a1_5, .int .i64 a1_6, .int .i64 a1_7, .int .i64 a1_8, .int .i64 a1_9]] w fun e w' => e = .returned (.bool r) ∧ Below w.heap.size w w' := by
 have hu25 := Try.underlying25
 have hu86 := Try.underlying86
 have hu27 := Try.underlying27
 have HR0_0 := Aside0.mk hr0_0
 have HC0_0 := Aside0.mk hc0_0
 clear hr0_0 hc0_0
 have HR0_1 := Aside0.mk hr0_1
 have HC0_1 := Aside0.mk hc0_1
 clear hr0_1 hc0_1
 have HR0_2 := Aside0.mk hr0_2
 have HC0_2 := Aside0.mk hc0_2
 clear hr0_2 hc0_2
 have HB := Aside0.mk (Below.refl w.heap.size w)
 have H : ((swashplatelaw01_Far.f k l0_0 l0_1 l0_2).bind fun t959 => (if t959 = true then (swashplatelaw01_SpansInside.j0 k true l0_0 l0_1 l0_2 a1_0 a1_1 a1_2 a1_3 a1_4 a1_5 a1_6 a1_7 a1_8 a1_9) else ((swashplateref01_CheckBound.f k l0_0 l0_1 l0_2 a1_0 a1_1 a1_2 a1_3).bind fun t960 => (swashplatelaw01_SpansInside.j0 k (t960 != 0) l0_0 l0_1 l0_2 a1_0 a1_1 a1_2 a1_3 a1_4 a1_5 a1_6 a1_7 a1_8 a1_9)))) = some r := h
 clear h
 have HC3 := Aside0.mk H
 clear H
 go_enter Try.func10, Try.ntmps10
 go_upto_region 1 with (first | ((with_reducible refine gate_dst (N := 2) rfl ?_); refine box_event ?hg (N := 2) ?hd (cs := #[.slice A0_0 l0_0.length c0_0, .slice A0_1 l0_1.length c0_1, .slice A0_2 l0_2.length c0_2]) (t := 25) ?hr ?_; (case hd => rfl); (case hg => rfl); (case hr => first | (go_simp; done) | (go_simp; rfl)); intro gb957 hg w4 hbox hb; have n0_ := Aside0.mk (below_step (bl_ HB.out) hb); have n1_ := Aside0.mk (hbox); have n2_ := Aside0.mk (szl_ hg HB.out); have n3_ := Aside0.mk (szl_ hg HB.out); clear HB; have HB := n0_; have BK957 := n1_; have GW957 := n2_; have GE957 := n3_; clear n0_ n1_ n2_ n3_ hb hbox hg) | ((with_reducible refine gate_dst (N := 3) rfl ?_); refine box_event ?hg (N := 3) ?hd (cs := #[.int .i64 a1_0, .int .i64 a1_1, .int .i64 a1_2, .int .i64 a1_3, .int .i64 a1_4, .int .i64 a1_5, .int .i64 a1_6, .int .i64 a1_7, .int .i64 a1_8, .int .i64 a1_9]) (t := 86) ?hr ?_; (case hd => rfl); (case hg => rfl); (case hr => first | (go_simp; done) | (go_simp; rfl)); intro gb958 hg w5 hbox hb; have n0_ := Aside0.mk (blk_below (bk_ BK957.out) hb); have n1_ := Aside0.mk (below_step (bl_ HB.out) hb); have n2_ := Aside0.mk (hbox); have n3_ := Aside0.mk (szl_ hg HB.out); have n4_ := Aside0.mk (szl_ hg HB.out); have n5_ := Aside0.mk (nel_ hg BK957.out); have n6_ := Aside0.mk (ner_ hg BK957.out); clear BK957 HB; have BK957 := n0_; have HB := n1_; have BK958 := n2_; have GW958 := n3_; have GE958 := n4_; have NB957_958 := n5_; have NB958_957 := n6_; clear n0_ n1_ n2_ n3_ n4_ n5_ n6_ hb hbox hg))
 (try simp only [Act.put, List.setIfInBounds_toArray, List.set_cons_zero, List.set_cons_succ])
 go_cut [35] (fun v35 wc => ∃ (kq : Nat) (x35_2 : Bool), v35 = .bool x35_2 ∧ Aside0 (swashplatelaw01_SpansInside.j0 kq x35_2 l0_0 l0_1 l0_2 a1_0 a1_1 a1_2 a1_3 a1_4 a1_5 a1_6 a1_7 a1_8 a1_9 = some r) ∧ Aside0 (kq ≤ k) ∧ Aside0 (wc.heap[gb957]? = some (.cells #[(.slice A0_0 l0_0.length c0_0), (.slice A0_1 l0_1.length c0_1), (.slice A0_2 l0_2.length c0_2)] 25 (0, 0))) ∧ Aside0 (wc.heap[gb958]? = some (.cells #[.int .i64 a1_0, .int .i64 a1_1, .int .i64 a1_2, .int .i64 a1_3, .int .i64 a1_4, .int .i64 a1_5, .int .i64 a1_6, .int .i64 a1_7, .int .i64 a1_8, .int .i64 a1_9] 86 (0, 0))) ∧ Aside0 (Below w.heap.size w wc))
 case first =>
  as_aux_lemma =>
  have H := HC3.out
  clear HC3
  replace H := Option.bind_eq_some_iff.mp H
  obtain ⟨t959, A60, H⟩ := H
  replace H : (if t959 = true then (swashplatelaw01_SpansInside.j0 k true l0_0 l0_1 l0_2 a1_0 a1_1 a1_2 a1_3 a1_4 a1_5 a1_6 a1_7 a1_8 a1_9) else ((swashplateref01_CheckBound.f k l0_0 l0_1 l0_2 a1_0 a1_1 a1_2 a1_3).bind fun t960 => (swashplatelaw01_SpansInside.j0 k (t960 != 0) l0_0 l0_1 l0_2 a1_0 a1_1 a1_2 a1_3 a1_4 a1_5 a1_6 a1_7 a1_8 a1_9))) = some r := H
  have A6 := Aside0.mk A60
  clear A60
  by_cases c7 : t959 = true
  ·
   subst c7
   have H1 : (swashplatelaw01_SpansInside.j0 k true l0_0 l0_1 l0_2 a1_0 a1_1 a1_2 a1_3 a1_4 a1_5 a1_6 a1_7 a1_8 a1_9) = some r := by rw [if_pos rfl] at H; exact H
   clear H
   have H := H1
   clear H1
   have H' := Aside0.mk H
   clear H
   have hnb8 := NB957_958.out
   have hnc8 := NB958_957.out
   have hcz9_0 : w5.cell? ⟨gb957, 0, none⟩ = some (.slice A0_0 l0_0.length c0_0) := (blk_cell BK957.out 0).trans rfl
   have hcz9_1 : w5.cell? ⟨gb957, 1, none⟩ = some (.slice A0_1 l0_1.length c0_1) := (blk_cell BK957.out 1).trans rfl
   have hcz9_2 : w5.cell? ⟨gb957, 2, none⟩ = some (.slice A0_2 l0_2.length c0_2) := (blk_cell BK957.out 2).trans rfl
   have hfz9_0 := blk_frozen BK957.out 0
   have hfz9_1 := blk_frozen BK957.out 1
   have hfz9_2 := blk_frozen BK957.out 2
   go_wp2_with (first | ((with_reducible refine gate_callee (f := 20) rfl ?_); refine goesL_ (some 24) rfl rfl Try.func20 (by kernel_rfl) rfl #[.agg #[.slice A0_0 l0_0.length c0_0, .slice A0_1 l0_1.length c0_1, .slice A0_2 l0_2.length c0_2]] rfl (by (try simp only [List.map_toArray, List.map_cons, List.map_nil]); first | done | rfl | (simp only [List.length_drop, List.length_take]; rfl)) ?_; (with_reducible refine (swashplatelaw01_Far.calls k _ _ l0_0 _ _ l0_1 _ _ l0_2 true _ ?side1 ?side2 ?side3 ?side4 ?side5 ?side6 A6.out).mono ?_); (case side1 => exact cr_ (Kd.C_below HR0_0.out HB.out)); (case side2 => exact HC0_0.out); (case side3 => exact cr_ (Kd.C_below HR0_1.out HB.out)); (case side4 => exact HC0_1.out); (case side5 => exact cr_ (Kd.C_below HR0_2.out HB.out)); (case side6 => exact HC0_2.out); rintro e w10 ⟨rfl, hb⟩; refine ⟨_, rfl, ?_⟩; have n0_ := Aside0.mk (blk_below (bk_ BK957.out) hb); have n1_ := Aside0.mk (blk_below (bk_ BK958.out) hb); have n2_ := Aside0.mk (below_step (bl_ HB.out) hb); clear BK957 BK958 HB; have BK957 := n0_; have BK958 := n1_; have HB := n2_; clear n0_ n1_ n2_; (try clear hb); (try clear hb2); (try clear hk); (try clear hi)))
   go_meet
   case rel => exact ⟨_, (true), (by first | rfl | (simp; done) | (simp [*]; done)), H', ⟨by first | omega | exact Nat.le_refl _⟩, ⟨bk_ BK957.out⟩, ⟨bk_ BK958.out⟩, ⟨bl_ HB.out⟩⟩
  ·
   replace c7 := Bool.eq_false_iff.mpr c7
   subst c7
   have H1 : ((swashplateref01_CheckBound.f k l0_0 l0_1 l0_2 a1_0 a1_1 a1_2 a1_3).bind fun t960 => (swashplatelaw01_SpansInside.j0 k (t960 != 0) l0_0 l0_1 l0_2 a1_0 a1_1 a1_2 a1_3 a1_4 a1_5 a1_6 a1_7 a1_8 a1_9)) = some r := by rw [if_neg (show ¬ (false = true) by decide)] at H; exact H
   clear H
   have H := H1
   clear H1
   replace H := Option.bind_eq_some_iff.mp H
   obtain ⟨t960, A110, H⟩ := H
   replace H : (swashplatelaw01_SpansInside.j0 k (t960 != 0) l0_0 l0_1 l0_2 a1_0 a1_1 a1_2 a1_3 a1_4 a1_5 a1_6 a1_7 a1_8 a1_9) = some r := H
   have A11 := Aside0.mk A110
   clear A110
   have H' := Aside0.mk H
   clear H
   have hnb12 := NB957_958.out
   have hnc12 := NB958_957.out
   have hcz13_0 : w5.cell? ⟨gb957, 0, none⟩ = some (.slice A0_0 l0_0.length c0_0) := (blk_cell BK957.out 0).trans rfl
   have hcz13_1 : w5.cell? ⟨gb957, 1, none⟩ = some (.slice A0_1 l0_1.length c0_1) := (blk_cell BK957.out 1).trans rfl
   have hcz13_2 : w5.cell? ⟨gb957, 2, none⟩ = some (.slice A0_2 l0_2.length c0_2) := (blk_cell BK957.out 2).trans rfl
   have hfz13_0 := blk_frozen BK957.out 0
   have hfz13_1 := blk_frozen BK957.out 1
   have hfz13_2 := blk_frozen BK957.out 2
   go_wp2_with (first | ((with_reducible refine gate_callee (f := 20) rfl ?_); refine goesL_ (some 24) rfl rfl Try.func20 (by kernel_rfl) rfl #[.agg #[.slice A0_0 l0_0.length c0_0, .slice A0_1 l0_1.length c0_1, .slice A0_2 l0_2.length c0_2]] rfl (by (try simp only [List.map_toArray, List.map_cons, List.map_nil]); first | done | rfl | (simp only [List.length_drop, List.length_take]; rfl)) ?_; (with_reducible refine (swashplatelaw01_Far.calls k _ _ l0_0 _ _ l0_1 _ _ l0_2 false _ ?side1 ?side2 ?side3 ?side4 ?side5 ?side6 A6.out).mono ?_); (case side1 => exact cr_ (Kd.C_below HR0_0.out HB.out)); (case side2 => exact HC0_0.out); (case side3 => exact cr_ (Kd.C_below HR0_1.out HB.out)); (case side4 => exact HC0_1.out); (case side5 => exact cr_ (Kd.C_below HR0_2.out HB.out)); (case side6 => exact HC0_2.out); rintro e w14 ⟨rfl, hb⟩; refine ⟨_, rfl, ?_⟩; have n0_ := Aside0.mk (blk_below (bk_ BK957.out) hb); have n1_ := Aside0.mk (blk_below (bk_ BK958.out) hb); have n2_ := Aside0.mk (below_step (bl_ HB.out) hb); clear BK957 BK958 HB; have BK957 := n0_; have BK958 := n1_; have HB := n2_; clear n0_ n1_ n2_; (try clear hb); (try clear hb2); (try clear hk); (try clear hi); have hcz15_0 : w14.cell? ⟨gb957, 0, none⟩ = some (.slice A0_0 l0_0.length c0_0) := (blk_cell BK957.out 0).trans rfl; have hcz15_1 : w14.cell? ⟨gb957, 1, none⟩ = some (.slice A0_1 l0_1.length c0_1) := (blk_cell BK957.out 1).trans rfl; have hcz15_2 : w14.cell? ⟨gb957, 2, none⟩ = some (.slice A0_2 l0_2.length c0_2) := (blk_cell BK957.out 2).trans rfl; have hfz15_0 := blk_frozen BK957.out 0; have hfz15_1 := blk_frozen BK957.out 1; have hfz15_2 := blk_frozen BK957.out 2; have hcz16_0 : w14.cell? ⟨gb958, 0, none⟩ = some (.int .i64 a1_0) := (blk_cell BK958.out 0).trans rfl; have hcz16_1 : w14.cell? ⟨gb958, 1, none⟩ = some (.int .i64 a1_1) := (blk_cell BK958.out 1).trans rfl; have hcz16_2 : w14.cell? ⟨gb958, 2, none⟩ = some (.int .i64 a1_2) := (blk_cell BK958.out 2).trans rfl; have hcz16_3 : w14.cell? ⟨gb958, 3, none⟩ = some (.int .i64 a1_3) := (blk_cell BK958.out 3).trans rfl; have hcz16_4 : w14.cell? ⟨gb958, 4, none⟩ = some (.int .i64 a1_4) := (blk_cell BK958.out 4).trans rfl; have hcz16_5 : w14.cell? ⟨gb958, 5, none⟩ = some (.int .i64 a1_5) := (blk_cell BK958.out 5).trans rfl; have hcz16_6 : w14.cell? ⟨gb958, 6, none⟩ = some (.int .i64 a1_6) := (blk_cell BK958.out 6).trans rfl; have hcz16_7 : w14.cell? ⟨gb958, 7, none⟩ = some (.int .i64 a1_7) := (blk_cell BK958.out 7).trans rfl; have hcz16_8 : w14.cell? ⟨gb958, 8, none⟩ = some (.int .i64 a1_8) := (blk_cell BK958.out 8).trans rfl; have hcz16_9 : w14.cell? ⟨gb958, 9, none⟩ = some (.int .i64 a1_9) := (blk_cell BK958.out 9).trans rfl; have hfz16_0 := blk_frozen BK958.out 0; have hfz16_1 := blk_frozen BK958.out 1; have hfz16_2 := blk_frozen BK958.out 2; have hfz16_3 := blk_frozen BK958.out 3; have hfz16_4 := blk_frozen BK958.out 4; have hfz16_5 := blk_frozen BK958.out 5; have hfz16_6 := blk_frozen BK958.out 6; have hfz16_7 := blk_frozen BK958.out 7; have hfz16_8 := blk_frozen BK958.out 8; have hfz16_9 := blk_frozen BK958.out 9) | (go_at_call 52; (with_reducible refine (swashplateref01_CheckBound.calls k _ _ l0_0 _ _ l0_1 _ _ l0_2 a1_0 a1_1 a1_2 a1_3 t960 _ ?side1 ?side2 ?side3 ?side4 ?side5 ?side6 A11.out).mono ?_); (case side1 => exact cr_ (Kd.C_below HR0_0.out HB.out)); (case side2 => exact HC0_0.out); (case side3 => exact cr_ (Kd.C_below HR0_1.out HB.out)); (case side4 => exact HC0_1.out); (case side5 => exact cr_ (Kd.C_below HR0_2.out HB.out)); (case side6 => exact HC0_2.out); rintro e w17 ⟨rfl, hb⟩; have n0_ := Aside0.mk (blk_below (bk_ BK957.out) hb); have n1_ := Aside0.mk (blk_below (bk_ BK958.out) hb); have n2_ := Aside0.mk (below_step (bl_ HB.out) hb); clear BK957 BK958 HB; have BK957 := n0_; have BK958 := n1_; have HB := n2_; clear n0_ n1_ n2_; (try clear hb); (try clear hb2); (try clear hk); (try clear hi)))
   go_meet
   case rel => exact ⟨_, ((t960 != 0)), (by first | rfl | (simp; done) | (simp [*]; done)), H', ⟨by first | omega | exact Nat.le_refl _⟩, ⟨bk_ BK957.out⟩, ⟨bk_ BK958.out⟩, ⟨bl_ HB.out⟩⟩
 case rest =>
  as_aux_lemma =>
  clear HC3
  try clear c1
  try clear c2
  try clear p2
  try clear c7
  try clear c8
  try clear c10
  try clear c12
  try clear hcz13_0
  try clear hcz13_1
  try clear hcz13_2
  try clear hcz15_0
  try clear hcz15_1
  try clear hcz15_2
  try clear hcz16_0
  try clear hcz16_1
  try clear hcz16_2
  try clear hcz16_3
  try clear hcz16_4
  try clear hcz16_5
  try clear hcz16_6
  try clear hcz16_7
  try clear hcz16_8
  try clear hcz16_9
  try clear hcz9_0
  try clear hcz9_1
  try clear hcz9_2
  try clear hfz13_0
  try clear hfz13_1
  try clear hfz13_2
  try clear hfz15_0
  try clear hfz15_1
  try clear hfz15_2
  try clear hfz16_0
  try clear hfz16_1
  try clear hfz16_2
  try clear hfz16_3
  try clear hfz16_4
  try clear hfz16_5
  try clear hfz16_6
  try clear hfz16_7
  try clear hfz16_8
  try clear hfz16_9
  try clear hfz9_0
  try clear hfz9_1
  try clear hfz9_2
  obtain ⟨kq, x35_2, rfl, HA, HJ2, BK957, BK958, HB⟩ := hcut
  cases kq with
  | zero => exact absurd HA.out (by simp [swashplatelaw01_SpansInside.j0])
  | succ kj2 =>
   have H := HA.out
   clear HA
   simp only [swashplatelaw01_SpansInside.j0] at H
   by_cases c18 : x35_2 = true
   ·
    subst c18
    have H1 : ((swashplatelaw01_works.f kj2).bind fun t961 => (some t961)) = some r := by rw [if_pos rfl] at H; exact H
    clear H
    have H := H1
    clear H1
    replace H := Option.bind_eq_some_iff.mp H
    obtain ⟨t961, A190, H⟩ := H
    replace H : (some t961) = some r := H
    have A19 := Aside0.mk A190
    clear A190
    obtain rfl := Option.some.inj H
    go_wp2_with (first | ((with_reducible refine gate_callee (f := 22) rfl ?_); refine goesL_ (some 36) rfl rfl Try.func22 (by kernel_rfl) rfl #[] rfl (by (try simp only [List.map_toArray, List.map_cons, List.map_nil]); first | done | rfl | (simp only [List.length_drop, List.length_take]; rfl)) ?_; (with_reducible refine (swashplatelaw01_works.calls kj2  t961 _ A19.out).mono ?_); rintro e w20 ⟨rfl, hb⟩; refine ⟨_, rfl, ?_⟩; have n0_ := Aside0.mk (blk_below (bk_ BK957.out) hb); have n1_ := Aside0.mk (blk_below (bk_ BK958.out) hb); have n2_ := Aside0.mk (below_step (bl_ HB.out) hb); clear BK957 BK958 HB; have BK957 := n0_; have BK958 := n1_; have HB := n2_; clear n0_ n1_ n2_; (try clear hb); (try clear hb2); (try clear hk); (try clear hi)))
    go_ret
    exact ⟨by first | rfl | (simp [errW_none, errW_some] <;> rfl) | (simp [*, errW_none, errW_some] <;> rfl), bl_ HB.out⟩
   ·
    replace c18 := Bool.eq_false_iff.mpr c18
    subst c18
    have H1 : ((swashplateref01_Copy.f kj2 l0_0 l0_1 l0_2).bind fun bt962 => ((spans_Bound.f bt962.1 bt962.2.1 bt962.2.2 a1_0 a1_1 a1_2 a1_3).bind fun bt972 => ((swashplatelaw01_within.f a1_4 a1_0 a1_1).bind fun t976 => ((swashplatelaw01_within.f a1_5 a1_2 a1_3).bind fun t977 => ((spans_At.f kj2 bt962.1 bt962.2.1 bt962.2.2 t976 t977).bind fun bt978 => ((spans_Worst.f bt962.1 bt962.2.1 bt962.2.2 a1_0 a1_1 a1_2 a1_3).bind fun bt982 => (if bt972.2.2 = 0 then (if bt978.2.2 = 0 then (if bt982.2.2 = 0 then (if bt978.1 < bt972.1 then (swashplatelaw01_SpansInside.j1 kj2 bt982.1 bt982.2.1 true a1_0 a1_1 a1_2 a1_3 a1_4 a1_5 a1_6 a1_7 a1_8 a1_9 bt962.1 bt962.2.1 bt962.2.2 bt972.1 bt972.2.1) else (swashplatelaw01_SpansInside.j1 kj2 bt982.1 bt982.2.1 (decide (bt978.2.1 > bt972.2.1)) a1_0 a1_1 a1_2 a1_3 a1_4 a1_5 a1_6 a1_7 a1_8 a1_9 bt962.1 bt962.2.1 bt962.2.2 bt972.1 bt972.2.1)) else (swashplatelaw01_SpansInside.j1 kj2 bt982.1 bt982.2.1 true a1_0 a1_1 a1_2 a1_3 a1_4 a1_5 a1_6 a1_7 a1_8 a1_9 bt962.1 bt962.2.1 bt962.2.2 bt972.1 bt972.2.1)) else (swashplatelaw01_SpansInside.j1 kj2 bt982.1 bt982.2.1 true a1_0 a1_1 a1_2 a1_3 a1_4 a1_5 a1_6 a1_7 a1_8 a1_9 bt962.1 bt962.2.1 bt962.2.2 bt972.1 bt972.2.1)) else (swashplatelaw01_SpansInside.j1 kj2 bt982.1 bt982.2.1 true a1_0 a1_1 a1_2 a1_3 a1_4 a1_5 a1_6 a1_7 a1_8 a1_9 bt962.1 bt962.2.1 bt962.2.2 bt972.1 bt972.2.1)))))))) = some r := by rw [if_neg (show ¬ (false = true) by decide)] at H; exact H
    clear H
    have H := H1
    clear H1
    replace H := Option.bind_eq_some_iff.mp H
    obtain ⟨⟨t962, t965, t968⟩, A210, H⟩ := H
    replace H : ((spans_Bound.f t962 t965 t968 a1_0 a1_1 a1_2 a1_3).bind fun bt972 => ((swashplatelaw01_within.f a1_4 a1_0 a1_1).bind fun t976 => ((swashplatelaw01_within.f a1_5 a1_2 a1_3).bind fun t977 => ((spans_At.f kj2 t962 t965 t968 t976 t977).bind fun bt978 => ((spans_Worst.f t962 t965 t968 a1_0 a1_1 a1_2 a1_3).bind fun bt982 => (if bt972.2.2 = 0 then (if bt978.2.2 = 0 then (if bt982.2.2 = 0 then (if bt978.1 < bt972.1 then (swashplatelaw01_SpansInside.j1 kj2 bt982.1 bt982.2.1 true a1_0 a1_1 a1_2 a1_3 a1_4 a1_5 a1_6 a1_7 a1_8 a1_9 t962 t965 t968 bt972.1 bt972.2.1) else (swashplatelaw01_SpansInside.j1 kj2 bt982.1 bt982.2.1 (decide (bt978.2.1 > bt972.2.1)) a1_0 a1_1 a1_2 a1_3 a1_4 a1_5 a1_6 a1_7 a1_8 a1_9 t962 t965 t968 bt972.1 bt972.2.1)) else (swashplatelaw01_SpansInside.j1 kj2 bt982.1 bt982.2.1 true a1_0 a1_1 a1_2 a1_3 a1_4 a1_5 a1_6 a1_7 a1_8 a1_9 t962 t965 t968 bt972.1 bt972.2.1)) else (swashplatelaw01_SpansInside.j1 kj2 bt982.1 bt982.2.1 true a1_0 a1_1 a1_2 a1_3 a1_4 a1_5 a1_6 a1_7 a1_8 a1_9 t962 t965 t968 bt972.1 bt972.2.1)) else (swashplatelaw01_SpansInside.j1 kj2 bt982.1 bt982.2.1 true a1_0 a1_1 a1_2 a1_3 a1_4 a1_5 a1_6 a1_7 a1_8 a1_9 t962 t965 t968 bt972.1 bt972.2.1))))))) = some r := H
    have A21 := Aside0.mk A210
    clear A210
    replace H := Option.bind_eq_some_iff.mp H
    obtain ⟨⟨t972, t973, t974⟩, A220, H⟩ := H
    replace H : ((swashplatelaw01_within.f a1_4 a1_0 a1_1).bind fun t976 => ((swashplatelaw01_within.f a1_5 a1_2 a1_3).bind fun t977 => ((spans_At.f kj2 t962 t965 t968 t976 t977).bind fun bt978 => ((spans_Worst.f t962 t965 t968 a1_0 a1_1 a1_2 a1_3).bind fun bt982 => (if t974 = 0 then (if bt978.2.2 = 0 then (if bt982.2.2 = 0 then (if bt978.1 < t972 then (swashplatelaw01_SpansInside.j1 kj2 bt982.1 bt982.2.1 true a1_0 a1_1 a1_2 a1_3 a1_4 a1_5 a1_6 a1_7 a1_8 a1_9 t962 t965 t968 t972 t973) else (swashplatelaw01_SpansInside.j1 kj2 bt982.1 bt982.2.1 (decide (bt978.2.1 > t973)) a1_0 a1_1 a1_2 a1_3 a1_4 a1_5 a1_6 a1_7 a1_8 a1_9 t962 t965 t968 t972 t973)) else (swashplatelaw01_SpansInside.j1 kj2 bt982.1 bt982.2.1 true a1_0 a1_1 a1_2 a1_3 a1_4 a1_5 a1_6 a1_7 a1_8 a1_9 t962 t965 t968 t972 t973)) else (swashplatelaw01_SpansInside.j1 kj2 bt982.1 bt982.2.1 true a1_0 a1_1 a1_2 a1_3 a1_4 a1_5 a1_6 a1_7 a1_8 a1_9 t962 t965 t968 t972 t973)) else (swashplatelaw01_SpansInside.j1 kj2 bt982.1 bt982.2.1 true a1_0 a1_1 a1_2 a1_3 a1_4 a1_5 a1_6 a1_7 a1_8 a1_9 t962 t965 t968 t972 t973)))))) = some r := H
    have A22 := Aside0.mk A220
    clear A220
    replace H := Option.bind_eq_some_iff.mp H
    obtain ⟨t976, A230, H⟩ := H
    replace H : ((swashplatelaw01_within.f a1_5 a1_2 a1_3).bind fun t977 => ((spans_At.f kj2 t962 t965 t968 t976 t977).bind fun bt978 => ((spans_Worst.f t962 t965 t968 a1_0 a1_1 a1_2 a1_3).bind fun bt982 => (if t974 = 0 then (if bt978.2.2 = 0 then (if bt982.2.2 = 0 then (if bt978.1 < t972 then (swashplatelaw01_SpansInside.j1 kj2 bt982.1 bt982.2.1 true a1_0 a1_1 a1_2 a1_3 a1_4 a1_5 a1_6 a1_7 a1_8 a1_9 t962 t965 t968 t972 t973) else (swashplatelaw01_SpansInside.j1 kj2 bt982.1 bt982.2.1 (decide (bt978.2.1 > t973)) a1_0 a1_1 a1_2 a1_3 a1_4 a1_5 a1_6 a1_7 a1_8 a1_9 t962 t965 t968 t972 t973)) else (swashplatelaw01_SpansInside.j1 kj2 bt982.1 bt982.2.1 true a1_0 a1_1 a1_2 a1_3 a1_4 a1_5 a1_6 a1_7 a1_8 a1_9 t962 t965 t968 t972 t973)) else (swashplatelaw01_SpansInside.j1 kj2 bt982.1 bt982.2.1 true a1_0 a1_1 a1_2 a1_3 a1_4 a1_5 a1_6 a1_7 a1_8 a1_9 t962 t965 t968 t972 t973)) else (swashplatelaw01_SpansInside.j1 kj2 bt982.1 bt982.2.1 true a1_0 a1_1 a1_2 a1_3 a1_4 a1_5 a1_6 a1_7 a1_8 a1_9 t962 t965 t968 t972 t973))))) = some r := H
    have A23 := Aside0.mk A230
    clear A230
    replace H := Option.bind_eq_some_iff.mp H
    obtain ⟨t977, A240, H⟩ := H
    replace H : ((spans_At.f kj2 t962 t965 t968 t976 t977).bind fun bt978 => ((spans_Worst.f t962 t965 t968 a1_0 a1_1 a1_2 a1_3).bind fun bt982 => (if t974 = 0 then (if bt978.2.2 = 0 then (if bt982.2.2 = 0 then (if bt978.1 < t972 then (swashplatelaw01_SpansInside.j1 kj2 bt982.1 bt982.2.1 true a1_0 a1_1 a1_2 a1_3 a1_4 a1_5 a1_6 a1_7 a1_8 a1_9 t962 t965 t968 t972 t973) else (swashplatelaw01_SpansInside.j1 kj2 bt982.1 bt982.2.1 (decide (bt978.2.1 > t973)) a1_0 a1_1 a1_2 a1_3 a1_4 a1_5 a1_6 a1_7 a1_8 a1_9 t962 t965 t968 t972 t973)) else (swashplatelaw01_SpansInside.j1 kj2 bt982.1 bt982.2.1 true a1_0 a1_1 a1_2 a1_3 a1_4 a1_5 a1_6 a1_7 a1_8 a1_9 t962 t965 t968 t972 t973)) else (swashplatelaw01_SpansInside.j1 kj2 bt982.1 bt982.2.1 true a1_0 a1_1 a1_2 a1_3 a1_4 a1_5 a1_6 a1_7 a1_8 a1_9 t962 t965 t968 t972 t973)) else (swashplatelaw01_SpansInside.j1 kj2 bt982.1 bt982.2.1 true a1_0 a1_1 a1_2 a1_3 a1_4 a1_5 a1_6 a1_7 a1_8 a1_9 t962 t965 t968 t972 t973)))) = some r := H
    have A24 := Aside0.mk A240
    clear A240
    replace H := Option.bind_eq_some_iff.mp H
    obtain ⟨⟨t978, t979, t980⟩, A250, H⟩ := H
    replace H : ((spans_Worst.f t962 t965 t968 a1_0 a1_1 a1_2 a1_3).bind fun bt982 => (if t974 = 0 then (if t980 = 0 then (if bt982.2.2 = 0 then (if t978 < t972 then (swashplatelaw01_SpansInside.j1 kj2 bt982.1 bt982.2.1 true a1_0 a1_1 a1_2 a1_3 a1_4 a1_5 a1_6 a1_7 a1_8 a1_9 t962 t965 t968 t972 t973) else (swashplatelaw01_SpansInside.j1 kj2 bt982.1 bt982.2.1 (decide (t979 > t973)) a1_0 a1_1 a1_2 a1_3 a1_4 a1_5 a1_6 a1_7 a1_8 a1_9 t962 t965 t968 t972 t973)) else (swashplatelaw01_SpansInside.j1 kj2 bt982.1 bt982.2.1 true a1_0 a1_1 a1_2 a1_3 a1_4 a1_5 a1_6 a1_7 a1_8 a1_9 t962 t965 t968 t972 t973)) else (swashplatelaw01_SpansInside.j1 kj2 bt982.1 bt982.2.1 true a1_0 a1_1 a1_2 a1_3 a1_4 a1_5 a1_6 a1_7 a1_8 a1_9 t962 t965 t968 t972 t973)) else (swashplatelaw01_SpansInside.j1 kj2 bt982.1 bt982.2.1 true a1_0 a1_1 a1_2 a1_3 a1_4 a1_5 a1_6 a1_7 a1_8 a1_9 t962 t965 t968 t972 t973))) = some r := H
    have A25 := Aside0.mk A250
    clear A250
    replace H := Option.bind_eq_some_iff.mp H
    obtain ⟨⟨t982, t983, t984⟩, A260, H⟩ := H
    replace H : (if t974 = 0 then (if t980 = 0 then (if t984 = 0 then (if t978 < t972 then (swashplatelaw01_SpansInside.j1 kj2 t982 t983 true a1_0 a1_1 a1_2 a1_3 a1_4 a1_5 a1_6 a1_7 a1_8 a1_9 t962 t965 t968 t972 t973) else (swashplatelaw01_SpansInside.j1 kj2 t982 t983 (decide (t979 > t973)) a1_0 a1_1 a1_2 a1_3 a1_4 a1_5 a1_6 a1_7 a1_8 a1_9 t962 t965 t968 t972 t973)) else (swashplatelaw01_SpansInside.j1 kj2 t982 t983 true a1_0 a1_1 a1_2 a1_3 a1_4 a1_5 a1_6 a1_7 a1_8 a1_9 t962 t965 t968 t972 t973)) else (swashplatelaw01_SpansInside.j1 kj2 t982 t983 true a1_0 a1_1 a1_2 a1_3 a1_4 a1_5 a1_6 a1_7 a1_8 a1_9 t962 t965 t968 t972 t973)) else (swashplatelaw01_SpansInside.j1 kj2 t982 t983 true a1_0 a1_1 a1_2 a1_3 a1_4 a1_5 a1_6 a1_7 a1_8 a1_9 t962 t965 t968 t972 t973)) = some r := H
    have A26 := Aside0.mk A260
    clear A260
    have HC27 := Aside0.mk H
    clear H
    have hnb28 := NB957_958.out
    have hnc28 := NB958_957.out
    have hcz29_0 : wc.cell? ⟨gb957, 0, none⟩ = some (.slice A0_0 l0_0.length c0_0) := (blk_cell BK957.out 0).trans rfl
    have hcz29_1 : wc.cell? ⟨gb957, 1, none⟩ = some (.slice A0_1 l0_1.length c0_1) := (blk_cell BK957.out 1).trans rfl
    have hcz29_2 : wc.cell? ⟨gb957, 2, none⟩ = some (.slice A0_2 l0_2.length c0_2) := (blk_cell BK957.out 2).trans rfl
    have hfz29_0 := blk_frozen BK957.out 0
    have hfz29_1 := blk_frozen BK957.out 1
    have hfz29_2 := blk_frozen BK957.out 2
    try go_wp2_with (first | ((with_reducible refine gate_callee (f := 24) rfl ?_); refine goesL_ (some 38) rfl rfl Try.func24 (by kernel_rfl) rfl #[.agg #[.slice A0_0 l0_0.length c0_0, .slice A0_1 l0_1.length c0_1, .slice A0_2 l0_2.length c0_2]] rfl (by (try simp only [List.map_toArray, List.map_cons, List.map_nil]); first | done | rfl | (simp only [List.length_drop, List.length_take]; rfl)) ?_; (with_reducible refine (swashplateref01_Copy.calls kj2 _ _ l0_0 _ _ l0_1 _ _ l0_2 t962 t965 t968 _ ?side1 ?side2 ?side3 ?side4 ?side5 ?side6 A21.out).mono ?_); (case side1 => exact cr_ (Kd.C_below HR0_0.out HB.out)); (case side2 => exact HC0_0.out); (case side3 => exact cr_ (Kd.C_below HR0_1.out HB.out)); (case side4 => exact HC0_1.out); (case side5 => exact cr_ (Kd.C_below HR0_2.out HB.out)); (case side6 => exact HC0_2.out); rintro e w30 ⟨v963, v966, v969, rfl, ho0, ho1, ho2, hb⟩; refine ⟨_, rfl, ?_⟩; have n0_ := Aside0.mk (Kd.R_lower ho0 (below_size (bl_ HB.out))); have n1_ := Aside0.mk (Kd.R_lower ho1 (below_size (bl_ HB.out))); have n2_ := Aside0.mk (Kd.S_lower ho2 (below_size (bl_ HB.out))); have n3_ := Aside0.mk (blk_below (bk_ BK957.out) hb); have n4_ := Aside0.mk (blk_below (bk_ BK958.out) hb); have n5_ := Aside0.mk (below_step (bl_ HB.out) hb); clear BK957 BK958 HB; have HO964 := n0_; have HO967 := n1_; have HO970 := n2_; have BK957 := n3_; have BK958 := n4_; have HB := n5_; clear n0_ n1_ n2_ n3_ n4_ n5_; (try clear hb); (try clear hb2); (try clear hk); (try clear hi); (try clear ho0); (try clear ho1); (try clear ho2)) | ((with_reducible refine gate_dst (N := 5) rfl ?_); refine box_event ?hg (N := 5) ?hd (cs := #[.slice none 0 0, .slice none 0 0, .slice none 0 0]) (t := 25) ?hr ?_; (case hd => rfl); (case hg => rfl); (case hr => first | (go_simp; done) | (go_simp; rfl)); intro gb971 hg w31 hbox hb; have n0_ := Aside0.mk (Kd.R_below (by (with_reducible repeat (first | apply Kd.R_alloc | apply Kd.R_drewN | apply Kd.R_drew)); exact HO964.out) hb); have n1_ := Aside0.mk (Kd.R_below (by (with_reducible repeat (first | apply Kd.R_alloc | apply Kd.R_drewN | apply Kd.R_drew)); exact HO967.out) hb); have n2_ := Aside0.mk (Kd.S_below (by (with_reducible repeat (first | apply Kd.S_alloc | apply Kd.S_drewN | apply Kd.S_drew)); exact HO970.out) hb); have n3_ := Aside0.mk (blk_below (bk_ BK957.out) hb); have n4_ := Aside0.mk (blk_below (bk_ BK958.out) hb); have n5_ := Aside0.mk (below_step (bl_ HB.out) hb); have n6_ := Aside0.mk (hbox); have n7_ := Aside0.mk (szl_ hg HB.out); have n8_ := Aside0.mk (szl_ hg HB.out); have n9_ := Aside0.mk (nel_ hg BK957.out); have n10_ := Aside0.mk (ner_ hg BK957.out); have n11_ := Aside0.mk (nel_ hg BK958.out); have n12_ := Aside0.mk (ner_ hg BK958.out); clear HO964 HO967 HO970 BK957 BK958 HB; have HO964 := n0_; have HO967 := n1_; have HO970 := n2_; have BK957 := n3_; have BK958 := n4_; have HB := n5_; have BK971 := n6_; have GW971 := n7_; have GE971 := n8_; have NB957_971 := n9_; have NB971_957 := n10_; have NB958_971 := n11_; have NB971_958 := n12_; clear n0_ n1_ n2_ n3_ n4_ n5_ n6_ n7_ n8_ n9_ n10_ n11_ n12_ hb hbox hg; obtain ⟨Ao32, co32, eo32⟩ := Kd.R_slice HO964.out; subst eo32; have hnb33 := NB971_957.out; have hnc33 := NB957_971.out; have hnb34 := NB971_958.out; have hnc34 := NB958_971.out; have hcz35_0 : w31.cell? ⟨gb971, 0, none⟩ = some (.slice none 0 0) := (blk_cell BK971.out 0).trans rfl; have hcz35_1 : w31.cell? ⟨gb971, 1, none⟩ = some (.slice none 0 0) := (blk_cell BK971.out 1).trans rfl; have hcz35_2 : w31.cell? ⟨gb971, 2, none⟩ = some (.slice none 0 0) := (blk_cell BK971.out 2).trans rfl; have hfz35_0 := blk_frozen BK971.out 0; have hfz35_1 := blk_frozen BK971.out 1; have hfz35_2 := blk_frozen BK971.out 2; obtain ⟨Ao36, co36, eo36⟩ := Kd.R_slice HO967.out; subst eo36; obtain ⟨Ao37, co37, eo37⟩ := Kd.S_slice HO970.out; subst eo37; have hcz38_0 : w31.cell? ⟨gb958, 0, none⟩ = some (.int .i64 a1_0) := (blk_cell BK958.out 0).trans rfl; have hcz38_1 : w31.cell? ⟨gb958, 1, none⟩ = some (.int .i64 a1_1) := (blk_cell BK958.out 1).trans rfl; have hcz38_2 : w31.cell? ⟨gb958, 2, none⟩ = some (.int .i64 a1_2) := (blk_cell BK958.out 2).trans rfl; have hcz38_3 : w31.cell? ⟨gb958, 3, none⟩ = some (.int .i64 a1_3) := (blk_cell BK958.out 3).trans rfl; have hcz38_4 : w31.cell? ⟨gb958, 4, none⟩ = some (.int .i64 a1_4) := (blk_cell BK958.out 4).trans rfl; have hcz38_5 : w31.cell? ⟨gb958, 5, none⟩ = some (.int .i64 a1_5) := (blk_cell BK958.out 5).trans rfl; have hcz38_6 : w31.cell? ⟨gb958, 6, none⟩ = some (.int .i64 a1_6) := (blk_cell BK958.out 6).trans rfl; have hcz38_7 : w31.cell? ⟨gb958, 7, none⟩ = some (.int .i64 a1_7) := (blk_cell BK958.out 7).trans rfl; have hcz38_8 : w31.cell? ⟨gb958, 8, none⟩ = some (.int .i64 a1_8) := (blk_cell BK958.out 8).trans rfl; have hcz38_9 : w31.cell? ⟨gb958, 9, none⟩ = some (.int .i64 a1_9) := (blk_cell BK958.out 9).trans rfl; have hfz38_0 := blk_frozen BK958.out 0; have hfz38_1 := blk_frozen BK958.out 1; have hfz38_2 := blk_frozen BK958.out 2; have hfz38_3 := blk_frozen BK958.out 3; have hfz38_4 := blk_frozen BK958.out 4; have hfz38_5 := blk_frozen BK958.out 5; have hfz38_6 := blk_frozen BK958.out 6; have hfz38_7 := blk_frozen BK958.out 7; have hfz38_8 := blk_frozen BK958.out 8; have hfz38_9 := blk_frozen BK958.out 9) | ((with_reducible refine gate_callee (f := 30) rfl ?_); refine goesL_ (some 47) rfl rfl Try.func30 (by kernel_rfl) rfl #[.agg #[.slice Ao32 t962.length co32, .slice Ao36 t965.length co36, .slice Ao37 t968.length co37], .agg #[.int .i64 a1_0, .int .i64 a1_1], .agg #[.int .i64 a1_2, .int .i64 a1_3]] rfl (by (try simp only [List.map_toArray, List.map_cons, List.map_nil]); first | done | rfl | (simp only [List.length_drop, List.length_take]; rfl)) ?_; (with_reducible refine (spans_Bound.calls _ _ t962 _ _ t965 _ _ t968 a1_0 a1_1 a1_2 a1_3 t972 t973 t974 _ ?side1 ?side2 ?side3 ?side4 ?side5 ?side6 A22.out).mono ?_); (case side1 => refine (Kd.R_reads' (e := 3) (base := w.heap.size) (ok := fun k_ => some k_ ≠ (.slice Ao36 t965.length co36 : Value).ownBlock) (n := t962.length) (c := co32) ?_).2.2; exact (by (with_reducible repeat (first | apply Kd.R_alloc | apply Kd.R_drewN | apply Kd.R_drew)); exact (Kd.R_mono (Kd.R_far (p := ⟨gb971, 2, none⟩) (Kd.R_far (p := ⟨gb971, 1, none⟩) (Kd.R_far (p := ⟨gb971, 0, none⟩) (Kd.R_types HO964.out BK971.out (by decide)) (fun _ hk => hk.2) (.slice Ao32 t962.length co32)) (fun _ hk => hk.2) (.slice Ao36 t965.length co36)) (fun _ hk => hk.2) (.slice Ao37 t968.length co37)) (fun _ h_ => h_.1)))); (case side2 => exact (Kd.R_reads' HO964.out).2.1); (case side3 => refine (Kd.R_reads' (e := 3) (base := w.heap.size) (ok := fun k_ => some k_ ≠ (.slice Ao32 t962.length co32 : Value).ownBlock) (n := t965.length) (c := co36) ?_).2.2; exact (by (with_reducible repeat (first | apply Kd.R_alloc | apply Kd.R_drewN | apply Kd.R_drew)); exact (Kd.R_mono (Kd.R_far (p := ⟨gb971, 2, none⟩) (Kd.R_far (p := ⟨gb971, 1, none⟩) (Kd.R_far (p := ⟨gb971, 0, none⟩) (Kd.R_types HO967.out BK971.out (by decide)) (fun _ hk => hk.2) (.slice Ao32 t962.length co32)) (fun _ hk => hk.2) (.slice Ao36 t965.length co36)) (fun _ hk => hk.2) (.slice Ao37 t968.length co37)) (fun _ h_ => h_.1)))); (case side4 => exact (Kd.R_reads' HO967.out).2.1); (case side5 => refine (Kd.S_reads' (e := 22) (base := w.heap.size) (ok := fun k_ => (some k_ ≠ (.slice Ao32 t962.length co32 : Value).ownBlock ∧ some k_ ≠ (.slice Ao36 t965.length co36 : Value).ownBlock)) (n := t968.length) (c := co37) ?_).2.2; exact (by (with_reducible repeat (first | apply Kd.S_alloc | apply Kd.S_drewN | apply Kd.S_drew)); exact (Kd.S_mono (Kd.S_far (p := ⟨gb971, 2, none⟩) (Kd.S_far (p := ⟨gb971, 1, none⟩) (Kd.S_far (p := ⟨gb971, 0, none⟩) (Kd.S_types HO970.out BK971.out (by decide)) (fun _ hk => hk.2) (.slice Ao32 t962.length co32)) (fun _ hk => hk.2) (.slice Ao36 t965.length co36)) (fun _ hk => hk.2) (.slice Ao37 t968.length co37)) (fun _ h_ => h_.1)))); (case side6 => exact (Kd.S_reads' HO970.out).2.1); rintro e w39 ⟨rfl, hb⟩; refine ⟨_, rfl, ?_⟩; have n0_ := Aside0.mk (Kd.R_below (by (with_reducible repeat (first | apply Kd.R_alloc | apply Kd.R_drewN | apply Kd.R_drew)); exact (Kd.R_mono (Kd.R_far (p := ⟨gb971, 2, none⟩) (Kd.R_far (p := ⟨gb971, 1, none⟩) (Kd.R_far (p := ⟨gb971, 0, none⟩) (Kd.R_types HO964.out BK971.out (by decide)) (fun _ hk => hk.2) (.slice Ao32 t962.length co32)) (fun _ hk => hk.2) (.slice Ao36 t965.length co36)) (fun _ hk => hk.2) (.slice Ao37 t968.length co37)) (fun _ h_ => h_.1))) hb); have n1_ := Aside0.mk (Kd.R_below (by (with_reducible repeat (first | apply Kd.R_alloc | apply Kd.R_drewN | apply Kd.R_drew)); exact (Kd.R_mono (Kd.R_far (p := ⟨gb971, 2, none⟩) (Kd.R_far (p := ⟨gb971, 1, none⟩) (Kd.R_far (p := ⟨gb971, 0, none⟩) (Kd.R_types HO967.out BK971.out (by decide)) (fun _ hk => hk.2) (.slice Ao32 t962.length co32)) (fun _ hk => hk.2) (.slice Ao36 t965.length co36)) (fun _ hk => hk.2) (.slice Ao37 t968.length co37)) (fun _ h_ => h_.1))) hb); have n2_ := Aside0.mk (Kd.S_below (by (with_reducible repeat (first | apply Kd.S_alloc | apply Kd.S_drewN | apply Kd.S_drew)); exact (Kd.S_mono (Kd.S_far (p := ⟨gb971, 2, none⟩) (Kd.S_far (p := ⟨gb971, 1, none⟩) (Kd.S_far (p := ⟨gb971, 0, none⟩) (Kd.S_types HO970.out BK971.out (by decide)) (fun _ hk => hk.2) (.slice Ao32 t962.length co32)) (fun _ hk => hk.2) (.slice Ao36 t965.length co36)) (fun _ hk => hk.2) (.slice Ao37 t968.length co37)) (fun _ h_ => h_.1))) hb); have n3_ := Aside0.mk (blk_below (g := gb957) (o := .cells #[.slice A0_0 l0_0.length c0_0, .slice A0_1 l0_1.length c0_1, .slice A0_2 l0_2.length c0_2] 25 (0, 0)) (by (with_reducible repeat (first | refine blk_drewN ?_ _ | refine blk_drew ?_ | refine blk_alloc ?_ _)); refine blk_far ?_ NB957_971.out _; (with_reducible repeat (first | refine blk_drewN ?_ _ | refine blk_drew ?_ | refine blk_alloc ?_ _)); refine blk_far ?_ NB957_971.out _; (with_reducible repeat (first | refine blk_drewN ?_ _ | refine blk_drew ?_ | refine blk_alloc ?_ _)); refine blk_far ?_ NB957_971.out _; (with_reducible repeat (first | refine blk_drewN ?_ _ | refine blk_drew ?_ | refine blk_alloc ?_ _)); exact BK957.out) hb); have n4_ := Aside0.mk (blk_below (g := gb958) (o := .cells #[.int .i64 a1_0, .int .i64 a1_1, .int .i64 a1_2, .int .i64 a1_3, .int .i64 a1_4, .int .i64 a1_5, .int .i64 a1_6, .int .i64 a1_7, .int .i64 a1_8, .int .i64 a1_9] 86 (0, 0)) (by (with_reducible repeat (first | refine blk_drewN ?_ _ | refine blk_drew ?_ | refine blk_alloc ?_ _)); refine blk_far ?_ NB958_971.out _; (with_reducible repeat (first | refine blk_drewN ?_ _ | refine blk_drew ?_ | refine blk_alloc ?_ _)); refine blk_far ?_ NB958_971.out _; (with_reducible repeat (first | refine blk_drewN ?_ _ | refine blk_drew ?_ | refine blk_alloc ?_ _)); refine blk_far ?_ NB958_971.out _; (with_reducible repeat (first | refine blk_drewN ?_ _ | refine blk_drew ?_ | refine blk_alloc ?_ _)); exact BK958.out) hb); have n5_ := Aside0.mk (blk_below (g := gb971) (o := .cells #[.slice Ao32 t962.length co32, .slice Ao36 t965.length co36, .slice Ao37 t968.length co37] 25 (0, 0)) (by (with_reducible repeat (first | refine blk_drewN ?_ _ | refine blk_drew ?_ | refine blk_alloc ?_ _)); refine blk_put (cs := #[.slice Ao32 t962.length co32, .slice Ao36 t965.length co36, .slice none 0 0]) ?_ 2 _ rfl; (with_reducible repeat (first | refine blk_drewN ?_ _ | refine blk_drew ?_ | refine blk_alloc ?_ _)); refine blk_put (cs := #[.slice Ao32 t962.length co32, .slice none 0 0, .slice none 0 0]) ?_ 1 _ rfl; (with_reducible repeat (first | refine blk_drewN ?_ _ | refine blk_drew ?_ | refine blk_alloc ?_ _)); refine blk_put (cs := #[.slice none 0 0, .slice none 0 0, .slice none 0 0]) ?_ 0 _ rfl; (with_reducible repeat (first | refine blk_drewN ?_ _ | refine blk_drew ?_ | refine blk_alloc ?_ _)); exact BK971.out) hb); have n6_ := Aside0.mk (below_step (bl_ HB.out) hb); clear HO964 HO967 HO970 BK957 BK958 BK971 HB; have HO964 := n0_; have HO967 := n1_; have HO970 := n2_; have BK957 := n3_; have BK958 := n4_; have BK971 := n5_; have HB := n6_; clear n0_ n1_ n2_ n3_ n4_ n5_ n6_; (try clear hb); (try clear hb2); (try clear hk); (try clear hi)) | ((with_reducible refine gate_dst (N := 6) rfl ?_); refine box_event ?hg (N := 6) ?hd (cs := #[.int .i64 0, .int .i64 0]) (t := 27) ?hr ?_; (case hd => rfl); (case hg => rfl); (case hr => first | (go_simp; done) | (go_simp; rfl)); intro gb975 hg w40 hbox hb; have n0_ := Aside0.mk (Kd.R_below (by (with_reducible repeat (first | apply Kd.R_alloc | apply Kd.R_drewN | apply Kd.R_drew)); exact HO964.out) hb); have n1_ := Aside0.mk (Kd.R_below (by (with_reducible repeat (first | apply Kd.R_alloc | apply Kd.R_drewN | apply Kd.R_drew)); exact HO967.out) hb); have n2_ := Aside0.mk (Kd.S_below (by (with_reducible repeat (first | apply Kd.S_alloc | apply Kd.S_drewN | apply Kd.S_drew)); exact HO970.out) hb); have n3_ := Aside0.mk (blk_below (bk_ BK957.out) hb); have n4_ := Aside0.mk (blk_below (bk_ BK958.out) hb); have n5_ := Aside0.mk (blk_below (bk_ BK971.out) hb); have n6_ := Aside0.mk (below_step (bl_ HB.out) hb); have n7_ := Aside0.mk (hbox); have n8_ := Aside0.mk (szl_ hg HB.out); have n9_ := Aside0.mk (szl_ hg HB.out); have n10_ := Aside0.mk (nel_ hg BK957.out); have n11_ := Aside0.mk (ner_ hg BK957.out); have n12_ := Aside0.mk (nel_ hg BK958.out); have n13_ := Aside0.mk (ner_ hg BK958.out); have n14_ := Aside0.mk (nel_ hg BK971.out); have n15_ := Aside0.mk (ner_ hg BK971.out); clear HO964 HO967 HO970 BK957 BK958 BK971 HB; have HO964 := n0_; have HO967 := n1_; have HO970 := n2_; have BK957 := n3_; have BK958 := n4_; have BK971 := n5_; have HB := n6_; have BK975 := n7_; have GW975 := n8_; have GE975 := n9_; have NB957_975 := n10_; have NB975_957 := n11_; have NB958_975 := n12_; have NB975_958 := n13_; have NB971_975 := n14_; have NB975_971 := n15_; clear n0_ n1_ n2_ n3_ n4_ n5_ n6_ n7_ n8_ n9_ n10_ n11_ n12_ n13_ n14_ n15_ hb hbox hg; have hnb41 := NB975_957.out; have hnc41 := NB957_975.out; have hnb42 := NB975_958.out; have hnc42 := NB958_975.out; have hnb43 := NB975_971.out; have hnc43 := NB971_975.out; have hcz44_0 : w40.cell? ⟨gb975, 0, none⟩ = some (.int .i64 0) := (blk_cell BK975.out 0).trans rfl; have hcz44_1 : w40.cell? ⟨gb975, 1, none⟩ = some (.int .i64 0) := (blk_cell BK975.out 1).trans rfl; have hfz44_0 := blk_frozen BK975.out 0; have hfz44_1 := blk_frozen BK975.out 1))
    have n0_ : Aside0 (Kd.R (Kd.int .i64) 3 ((w40.setCell ⟨gb975, 0, none⟩ (.int .i64 t972)).setCell ⟨gb975, 1, none⟩ (.int .i64 t973)) w.heap.size (fun k_ => some k_ ≠ (.slice Ao36 t965.length co36 : Value).ownBlock) (.slice Ao32 t962.length co32) t962) := ⟨by (with_reducible repeat (first | apply Kd.R_alloc | apply Kd.R_drewN | apply Kd.R_drew)); exact Kd.R_mono (Kd.R_far (p := ⟨gb975, 1, none⟩) (Kd.R_far (p := ⟨gb975, 0, none⟩) (Kd.R_types HO964.out BK975.out (by decide)) (fun _ hk => hk.2) (.int .i64 t972)) (fun _ hk => hk.2) (.int .i64 t973)) (fun _ hk => hk.1)⟩
    have n1_ : Aside0 (Kd.R (Kd.int .i64) 3 ((w40.setCell ⟨gb975, 0, none⟩ (.int .i64 t972)).setCell ⟨gb975, 1, none⟩ (.int .i64 t973)) w.heap.size (fun k_ => some k_ ≠ (.slice Ao32 t962.length co32 : Value).ownBlock) (.slice Ao36 t965.length co36) t965) := ⟨by (with_reducible repeat (first | apply Kd.R_alloc | apply Kd.R_drewN | apply Kd.R_drew)); exact Kd.R_mono (Kd.R_far (p := ⟨gb975, 1, none⟩) (Kd.R_far (p := ⟨gb975, 0, none⟩) (Kd.R_types HO967.out BK975.out (by decide)) (fun _ hk => hk.2) (.int .i64 t972)) (fun _ hk => hk.2) (.int .i64 t973)) (fun _ hk => hk.1)⟩
    have n2_ : Aside0 (Kd.S (Kd.slice 3 (Kd.int .i64)) 22 ((w40.setCell ⟨gb975, 0, none⟩ (.int .i64 t972)).setCell ⟨gb975, 1, none⟩ (.int .i64 t973)) w.heap.size (fun k_ => some k_ ≠ (.slice Ao32 t962.length co32 : Value).ownBlock ∧ some k_ ≠ (.slice Ao36 t965.length co36 : Value).ownBlock) (.slice Ao37 t968.length co37) t968) := ⟨by (with_reducible repeat (first | apply Kd.S_alloc | apply Kd.S_drewN | apply Kd.S_drew)); exact Kd.S_mono (Kd.S_far (p := ⟨gb975, 1, none⟩) (Kd.S_far (p := ⟨gb975, 0, none⟩) (Kd.S_types HO970.out BK975.out (by decide)) (fun _ hk => hk.2) (.int .i64 t972)) (fun _ hk => hk.2) (.int .i64 t973)) (fun _ hk => ⟨hk.1.1, hk.1.2⟩)⟩
    have n3_ : Aside0 (((w40.setCell ⟨gb975, 0, none⟩ (.int .i64 t972)).setCell ⟨gb975, 1, none⟩ (.int .i64 t973)).heap[gb957]? = some (.cells #[.slice A0_0 l0_0.length c0_0, .slice A0_1 l0_1.length c0_1, .slice A0_2 l0_2.length c0_2] 25 (0, 0))) := ⟨by (with_reducible repeat (first | refine blk_drewN ?_ _ | refine blk_drew ?_ | refine blk_alloc ?_ _)); refine blk_far ?_ NB957_975.out _; (with_reducible repeat (first | refine blk_drewN ?_ _ | refine blk_drew ?_ | refine blk_alloc ?_ _)); refine blk_far ?_ NB957_975.out _; (with_reducible repeat (first | refine blk_drewN ?_ _ | refine blk_drew ?_ | refine blk_alloc ?_ _)); exact BK957.out⟩
    have n4_ : Aside0 (((w40.setCell ⟨gb975, 0, none⟩ (.int .i64 t972)).setCell ⟨gb975, 1, none⟩ (.int .i64 t973)).heap[gb958]? = some (.cells #[.int .i64 a1_0, .int .i64 a1_1, .int .i64 a1_2, .int .i64 a1_3, .int .i64 a1_4, .int .i64 a1_5, .int .i64 a1_6, .int .i64 a1_7, .int .i64 a1_8, .int .i64 a1_9] 86 (0, 0))) := ⟨by (with_reducible repeat (first | refine blk_drewN ?_ _ | refine blk_drew ?_ | refine blk_alloc ?_ _)); refine blk_far ?_ NB958_975.out _; (with_reducible repeat (first | refine blk_drewN ?_ _ | refine blk_drew ?_ | refine blk_alloc ?_ _)); refine blk_far ?_ NB958_975.out _; (with_reducible repeat (first | refine blk_drewN ?_ _ | refine blk_drew ?_ | refine blk_alloc ?_ _)); exact BK958.out⟩
    have n5_ : Aside0 (((w40.setCell ⟨gb975, 0, none⟩ (.int .i64 t972)).setCell ⟨gb975, 1, none⟩ (.int .i64 t973)).heap[gb971]? = some (.cells #[.slice Ao32 t962.length co32, .slice Ao36 t965.length co36, .slice Ao37 t968.length co37] 25 (0, 0))) := ⟨by (with_reducible repeat (first | refine blk_drewN ?_ _ | refine blk_drew ?_ | refine blk_alloc ?_ _)); refine blk_far ?_ NB971_975.out _; (with_reducible repeat (first | refine blk_drewN ?_ _ | refine blk_drew ?_ | refine blk_alloc ?_ _)); refine blk_far ?_ NB971_975.out _; (with_reducible repeat (first | refine blk_drewN ?_ _ | refine blk_drew ?_ | refine blk_alloc ?_ _)); exact BK971.out⟩
    have n6_ : Aside0 (((w40.setCell ⟨gb975, 0, none⟩ (.int .i64 t972)).setCell ⟨gb975, 1, none⟩ (.int .i64 t973)).heap[gb975]? = some (.cells #[.int .i64 t972, .int .i64 t973] 27 (0, 0))) := ⟨by (with_reducible repeat (first | refine blk_drewN ?_ _ | refine blk_drew ?_ | refine blk_alloc ?_ _)); refine blk_put (cs := #[.int .i64 t972, .int .i64 0]) ?_ 1 _ rfl; (with_reducible repeat (first | refine blk_drewN ?_ _ | refine blk_drew ?_ | refine blk_alloc ?_ _)); refine blk_put (cs := #[.int .i64 0, .int .i64 0]) ?_ 0 _ rfl; (with_reducible repeat (first | refine blk_drewN ?_ _ | refine blk_drew ?_ | refine blk_alloc ?_ _)); exact BK975.out⟩
    have n7_ : Aside0 (Below w.heap.size w ((w40.setCell ⟨gb975, 0, none⟩ (.int .i64 t972)).setCell ⟨gb975, 1, none⟩ (.int .i64 t973))) := ⟨bl_ HB.out⟩
    (try clear HO964)
    (try clear HO967)
    (try clear HO970)
    (try clear BK957)
    (try clear BK958)
    (try clear BK971)
    (try clear BK975)
    (try clear HB)
    generalize ((w40.setCell ⟨gb975, 0, none⟩ (.int .i64 t972)).setCell ⟨gb975, 1, none⟩ (.int .i64 t973)) = w45 at n0_ n1_ n2_ n3_ n4_ n5_ n6_ n7_ ⊢
    have HO964 := n0_
    have HO967 := n1_
    have HO970 := n2_
    have BK957 := n3_
    have BK958 := n4_
    have BK971 := n5_
    have BK975 := n6_
    have HB := n7_
    clear n0_ n1_ n2_ n3_ n4_ n5_ n6_ n7_
    have n0_ := Aside0.mk (Kd.R_drew HO964.out)
    have n1_ := Aside0.mk (Kd.R_drew HO967.out)
    have n2_ := Aside0.mk (Kd.S_drew HO970.out)
    have n3_ := Aside0.mk (blk_drew BK957.out)
    have n4_ := Aside0.mk (blk_drew BK958.out)
    have n5_ := Aside0.mk (blk_drew BK971.out)
    have n6_ := Aside0.mk (blk_drew BK975.out)
    have n7_ := Aside0.mk (below_drew1 HB.out)
    clear HO964 HO967 HO970 BK957 BK958 BK971 BK975 HB
    have HO964 := n0_
    have HO967 := n1_
    have HO970 := n2_
    have BK957 := n3_
    have BK958 := n4_
    have BK971 := n5_
    have BK975 := n6_
    have HB := n7_
    clear n0_ n1_ n2_ n3_ n4_ n5_ n6_ n7_
    refine start_ (n := 16) (S := fun w' => w'.cell? ⟨gb958, 0, none⟩ = some (.int .i64 a1_0) ∧ w'.cell? ⟨gb958, 1, none⟩ = some (.int .i64 a1_1) ∧ w'.cell? ⟨gb958, 2, none⟩ = some (.int .i64 a1_2) ∧ w'.cell? ⟨gb958, 3, none⟩ = some (.int .i64 a1_3) ∧ w'.cell? ⟨gb958, 4, none⟩ = some (.int .i64 a1_4) ∧ w'.cell? ⟨gb958, 5, none⟩ = some (.int .i64 a1_5) ∧ w'.cell? ⟨gb958, 6, none⟩ = some (.int .i64 a1_6) ∧ w'.cell? ⟨gb958, 7, none⟩ = some (.int .i64 a1_7) ∧ w'.cell? ⟨gb958, 8, none⟩ = some (.int .i64 a1_8) ∧ w'.cell? ⟨gb958, 9, none⟩ = some (.int .i64 a1_9)) (ds := []) #[false, false, false, false, false, false, false, false, false, false, false, false, false, false, false, false] (by kernel_rfl) rfl rfl ⟨(blk_cell BK958.out 0).trans rfl, (blk_cell BK958.out 1).trans rfl, (blk_cell BK958.out 2).trans rfl, (blk_cell BK958.out 3).trans rfl, (blk_cell BK958.out 4).trans rfl, (blk_cell BK958.out 5).trans rfl, (blk_cell BK958.out 6).trans rfl, (blk_cell BK958.out 7).trans rfl, (blk_cell BK958.out 8).trans rfl, (blk_cell BK958.out 9).trans rfl⟩ (fun hHeld => ?_); refine with_tabW swashplatelaw01_SpansInside.tab5 swashplatelaw01_SpansInside.bits5 (fun HT_ HW_ => ?_)
    generalize w45.drew = w46 at HO964 HO967 HO970 BK957 BK958 BK971 BK975 HB hHeld ⊢
    refine pure_ (i := 0) (N := some 50) (v := ?_) (a' := ?_) #[true, false, false, false, false, false, false, false, false, false, false, false, false, false, false, false] rfl rfl (any_of HT_.out (by kernel_rfl)) (fun _ _ _ h => h) (Or.inl ⟨by rfl, ?_⟩) ?_ ?_
    rotate_left
    ·
     intro w'
     go_simp
     with_reducible rfl
    rotate_left
    ·
     simp only [Act.put, List.setIfInBounds_toArray, List.set_cons_zero, List.set_cons_succ, i64_w, i32_w]
     rfl
    refine pure_ (i := 1) (N := some 51) (v := ?_) (a' := ?_) #[true, true, false, false, false, false, false, false, false, false, false, false, false, false, false, false] rfl rfl (any_of HT_.out (by kernel_rfl)) (fun _ _ _ h => h) (Or.inl ⟨by rfl, ?_⟩) ?_ ?_
    rotate_left
    ·
     intro w'
     go_simp
     with_reducible rfl
    rotate_left
    ·
     simp only [Act.put, List.setIfInBounds_toArray, List.set_cons_zero, List.set_cons_succ, i64_w, i32_w]
     rfl
    refine pure_ (i := 3) (N := some 53) (v := ?_) (a' := ?_) #[true, true, false, true, false, false, false, false, false, false, false, false, false, false, false, false] rfl rfl (any_of HT_.out (by kernel_rfl)) (fun _ _ _ h => h) (Or.inl ⟨by rfl, ?_⟩) ?_ ?_
    rotate_left
    ·
     intro w'
     go_simp
     with_reducible rfl
    rotate_left
    ·
     simp only [Act.put, List.setIfInBounds_toArray, List.set_cons_zero, List.set_cons_succ, i64_w, i32_w]
     rfl
    refine pure_ (i := 4) (N := some 54) (v := ?_) (a' := ?_) #[true, true, false, true, true, false, false, false, false, false, false, false, false, false, false, false] rfl rfl (any_of HT_.out (by kernel_rfl)) (fun _ _ _ h => h) (Or.inl ⟨by rfl, ?_⟩) ?_ ?_
    rotate_left
    ·
     intro w'
     go_simp
     with_reducible rfl
    rotate_left
    ·
     simp only [Act.put, List.setIfInBounds_toArray, List.set_cons_zero, List.set_cons_succ, i64_w, i32_w]
     rfl
    refine pure_ (i := 7) (N := some 57) (v := ?_) (a' := ?_) #[true, true, false, true, true, false, false, true, false, false, false, false, false, false, false, false] rfl rfl (any_of HT_.out (by kernel_rfl)) (fun _ _ _ h => h) (Or.inl ⟨by rfl, ?_⟩) ?_ ?_
    rotate_left
    ·
     intro w'
     go_simp
     with_reducible rfl
    rotate_left
    ·
     simp only [Act.put, List.setIfInBounds_toArray, List.set_cons_zero, List.set_cons_succ, i64_w, i32_w]
     rfl
    refine pure_ (i := 8) (N := some 58) (v := ?_) (a' := ?_) #[true, true, false, true, true, false, false, true, true, false, false, false, false, false, false, false] rfl rfl (any_of HT_.out (by kernel_rfl)) (fun _ _ _ h => h) (Or.inl ⟨by rfl, ?_⟩) ?_ ?_
    rotate_left
    ·
     intro w'
     go_simp
     with_reducible rfl
    rotate_left
    ·
     simp only [Act.put, List.setIfInBounds_toArray, List.set_cons_zero, List.set_cons_succ, i64_w, i32_w]
     rfl
    refine pure_ (i := 10) (N := some 60) (v := ?_) (a' := ?_) #[true, true, false, true, true, false, false, true, true, false, true, false, false, false, false, false] rfl rfl (any_of HT_.out (by kernel_rfl)) (fun _ _ _ h => h) (Or.inl ⟨by rfl, ?_⟩) ?_ ?_
    rotate_left
    ·
     intro w'
     go_simp
     with_reducible rfl
    rotate_left
    ·
     simp only [Act.put, List.setIfInBounds_toArray, List.set_cons_zero, List.set_cons_succ, i64_w, i32_w]
     rfl
    refine pure_ (i := 11) (N := some 61) (v := ?_) (a' := ?_) #[true, true, false, true, true, false, false, true, true, false, true, true, false, false, false, false] rfl rfl (any_of HT_.out (by kernel_rfl)) (fun _ _ _ h => h) (Or.inl ⟨by rfl, ?_⟩) ?_ ?_
    rotate_left
    ·
     intro w'
     go_simp
     with_reducible rfl
    rotate_left
    ·
     simp only [Act.put, List.setIfInBounds_toArray, List.set_cons_zero, List.set_cons_succ, i64_w, i32_w]
     rfl
    refine take_ (i := 2) (N := some 52) (v := ?_) (a' := ?_) #[true, true, true, true, true, false, false, true, true, false, true, true, false, false, false, false] rfl rfl (take_ofW HT_.out HW_.out (by kernel_rfl)) (fun _ _ _ h => h) (Or.inl ⟨by rfl, ?_⟩) hHeld ?_ ?_
    rotate_left
    ·
     rintro w' ⟨s0, s1, s2, s3, s4, s5, s6, s7, s8, s9⟩
     go_simp
     with_reducible rfl
    rotate_left
    ·
     simp only [Act.put, List.setIfInBounds_toArray, List.set_cons_zero, List.set_cons_succ, i64_w, i32_w]
     rfl
    refine take_ (i := 5) (N := some 55) (v := ?_) (a' := ?_) #[true, true, true, true, true, true, false, true, true, false, true, true, false, false, false, false] rfl rfl (take_ofW HT_.out HW_.out (by kernel_rfl)) (fun _ _ _ h => h) (Or.inl ⟨by rfl, ?_⟩) hHeld ?_ ?_
    rotate_left
    ·
     rintro w' ⟨s0, s1, s2, s3, s4, s5, s6, s7, s8, s9⟩
     go_simp
     with_reducible rfl
    rotate_left
    ·
     simp only [Act.put, List.setIfInBounds_toArray, List.set_cons_zero, List.set_cons_succ, i64_w, i32_w]
     rfl
    refine take_ (i := 9) (N := some 59) (v := ?_) (a' := ?_) #[true, true, true, true, true, true, false, true, true, true, true, true, false, false, false, false] rfl rfl (take_ofW HT_.out HW_.out (by kernel_rfl)) (fun _ _ _ h => h) (Or.inl ⟨by rfl, ?_⟩) hHeld ?_ ?_
    rotate_left
    ·
     rintro w' ⟨s0, s1, s2, s3, s4, s5, s6, s7, s8, s9⟩
     go_simp
     with_reducible rfl
    rotate_left
    ·
     simp only [Act.put, List.setIfInBounds_toArray, List.set_cons_zero, List.set_cons_succ, i64_w, i32_w]
     rfl
    refine take_ (i := 12) (N := some 62) (v := ?_) (a' := ?_) #[true, true, true, true, true, true, false, true, true, true, true, true, true, false, false, false] rfl rfl (take_ofW HT_.out HW_.out (by kernel_rfl)) (fun _ _ _ h => h) (Or.inl ⟨by rfl, ?_⟩) hHeld ?_ ?_
    rotate_left
    ·
     rintro w' ⟨s0, s1, s2, s3, s4, s5, s6, s7, s8, s9⟩
     go_simp
     with_reducible rfl
    rotate_left
    ·
     simp only [Act.put, List.setIfInBounds_toArray, List.set_cons_zero, List.set_cons_succ, i64_w, i32_w]
     rfl
    refine one_ (i := 6) (N := some 56) #[true, true, true, true, true, true, true, true, true, true, true, true, true, false, false, false] rfl rfl (one_of HT_.out (by kernel_rfl)) (by decide) (fun K hK => ?_)
    refine goes_ Try.func53 (by kernel_rfl) rfl #[.int .i64 a1_4, .agg #[.int .i64 a1_0, .int .i64 a1_1]] (by rfl) rfl rfl (by (try simp only [List.map_toArray, List.map_cons, List.map_nil]); first | done | rfl | (simp only [List.length_drop, List.length_take]; rfl)) ?_
    with_reducible refine (swashplatelaw01_within.calls a1_4 a1_0 a1_1 t976 _ A23.out).mono ?_
    rintro e w47 ⟨rfl, hb⟩
    refine ⟨_, rfl, ?_⟩
    have n0_ := Aside0.mk (Kd.R_below (by (with_reducible repeat (first | apply Kd.R_alloc | apply Kd.R_drewN | apply Kd.R_drew)); exact HO964.out) hb)
    have n1_ := Aside0.mk (Kd.R_below (by (with_reducible repeat (first | apply Kd.R_alloc | apply Kd.R_drewN | apply Kd.R_drew)); exact HO967.out) hb)
    have n2_ := Aside0.mk (Kd.S_below (by (with_reducible repeat (first | apply Kd.S_alloc | apply Kd.S_drewN | apply Kd.S_drew)); exact HO970.out) hb)
    have n3_ := Aside0.mk (blk_below (bk_ BK957.out) hb)
    have n4_ := Aside0.mk (blk_below (bk_ BK958.out) hb)
    have n5_ := Aside0.mk (blk_below (bk_ BK971.out) hb)
    have n6_ := Aside0.mk (blk_below (bk_ BK975.out) hb)
    have n7_ := Aside0.mk (below_step (bl_ HB.out) hb)
    clear HO964 HO967 HO970 BK957 BK958 BK971 BK975 HB
    have HO964 := n0_
    have HO967 := n1_
    have HO970 := n2_
    have BK957 := n3_
    have BK958 := n4_
    have BK971 := n5_
    have BK975 := n6_
    have HB := n7_
    clear n0_ n1_ n2_ n3_ n4_ n5_ n6_ n7_
    (try clear hb)
    (try clear hb2)
    (try clear hk)
    (try clear hi)
    refine hK.out _ _ ⟨(blk_cell BK958.out 0).trans rfl, (blk_cell BK958.out 1).trans rfl, (blk_cell BK958.out 2).trans rfl, (blk_cell BK958.out 3).trans rfl, (blk_cell BK958.out 4).trans rfl, (blk_cell BK958.out 5).trans rfl, (blk_cell BK958.out 6).trans rfl, (blk_cell BK958.out 7).trans rfl, (blk_cell BK958.out 8).trans rfl, (blk_cell BK958.out 9).trans rfl⟩ (fun hHeld => ?_)
    clear hK K
    refine norm_ (a' := ?_) ?_ ?_
    rotate_left
    ·
     show Act.put _ (some 56) _ = _
     simp only [Act.put, List.setIfInBounds_toArray, List.set_cons_zero, List.set_cons_succ, i64_w, i32_w]
     rfl
    refine one_ (i := 13) (N := some 63) #[true, true, true, true, true, true, true, true, true, true, true, true, true, true, false, false] rfl rfl (one_of HT_.out (by kernel_rfl)) (by decide) (fun K hK => ?_)
    refine goes_ Try.func53 (by kernel_rfl) rfl #[.int .i64 a1_5, .agg #[.int .i64 a1_2, .int .i64 a1_3]] (by rfl) rfl rfl (by (try simp only [List.map_toArray, List.map_cons, List.map_nil]); first | done | rfl | (simp only [List.length_drop, List.length_take]; rfl)) ?_
    with_reducible refine (swashplatelaw01_within.calls a1_5 a1_2 a1_3 t977 _ A24.out).mono ?_
    rintro e w48 ⟨rfl, hb⟩
    refine ⟨_, rfl, ?_⟩
    have n0_ := Aside0.mk (Kd.R_below (by (with_reducible repeat (first | apply Kd.R_alloc | apply Kd.R_drewN | apply Kd.R_drew)); exact HO964.out) hb)
    have n1_ := Aside0.mk (Kd.R_below (by (with_reducible repeat (first | apply Kd.R_alloc | apply Kd.R_drewN | apply Kd.R_drew)); exact HO967.out) hb)
    have n2_ := Aside0.mk (Kd.S_below (by (with_reducible repeat (first | apply Kd.S_alloc | apply Kd.S_drewN | apply Kd.S_drew)); exact HO970.out) hb)
    have n3_ := Aside0.mk (blk_below (bk_ BK957.out) hb)
    have n4_ := Aside0.mk (blk_below (bk_ BK958.out) hb)
    have n5_ := Aside0.mk (blk_below (bk_ BK971.out) hb)
    have n6_ := Aside0.mk (blk_below (bk_ BK975.out) hb)
    have n7_ := Aside0.mk (below_step (bl_ HB.out) hb)
    clear HO964 HO967 HO970 BK957 BK958 BK971 BK975 HB
    have HO964 := n0_
    have HO967 := n1_
    have HO970 := n2_
    have BK957 := n3_
    have BK958 := n4_
    have BK971 := n5_
    have BK975 := n6_
    have HB := n7_
    clear n0_ n1_ n2_ n3_ n4_ n5_ n6_ n7_
    (try clear hb)
    (try clear hb2)
    (try clear hk)
    (try clear hi)
    refine hK.out _ _ ⟨(blk_cell BK958.out 0).trans rfl, (blk_cell BK958.out 1).trans rfl, (blk_cell BK958.out 2).trans rfl, (blk_cell BK958.out 3).trans rfl, (blk_cell BK958.out 4).trans rfl, (blk_cell BK958.out 5).trans rfl, (blk_cell BK958.out 6).trans rfl, (blk_cell BK958.out 7).trans rfl, (blk_cell BK958.out 8).trans rfl, (blk_cell BK958.out 9).trans rfl⟩ (fun hHeld => ?_)
    clear hK K
    refine norm_ (a' := ?_) ?_ ?_
    rotate_left
    ·
     show Act.put _ (some 63) _ = _
     simp only [Act.put, List.setIfInBounds_toArray, List.set_cons_zero, List.set_cons_succ, i64_w, i32_w]
     rfl
    refine pure_ (i := 14) (N := some 8) (v := ?_) (a' := ?_) #[true, true, true, true, true, true, true, true, true, true, true, true, true, true, true, false] rfl rfl (any_of HT_.out (by kernel_rfl)) (fun _ _ _ h => h) (Or.inl ⟨by rfl, ?_⟩) ?_ ?_
    rotate_left
    ·
     intro w'
     go_simp
     with_reducible rfl
    rotate_left
    ·
     simp only [Act.put, List.setIfInBounds_toArray, List.set_cons_zero, List.set_cons_succ, i64_w, i32_w]
     rfl
    refine pure_ (i := 15) (N := some 9) (v := ?_) (a' := ?_) #[true, true, true, true, true, true, true, true, true, true, true, true, true, true, true, true] rfl rfl (any_of HT_.out (by kernel_rfl)) (fun _ _ _ h => h) (Or.inl ⟨by rfl, ?_⟩) ?_ ?_
    rotate_left
    ·
     intro w'
     go_simp
     with_reducible rfl
    rotate_left
    ·
     simp only [Act.put, List.setIfInBounds_toArray, List.set_cons_zero, List.set_cons_succ, i64_w, i32_w]
     rfl
    refine done_ (done_of HT_.out (by kernel_rfl)) ?_
    have hcz49_0 : w48.cell? ⟨gb971, 0, none⟩ = some (.slice Ao32 t962.length co32) := (blk_cell BK971.out 0).trans rfl
    have hcz49_1 : w48.cell? ⟨gb971, 1, none⟩ = some (.slice Ao36 t965.length co36) := (blk_cell BK971.out 1).trans rfl
    have hcz49_2 : w48.cell? ⟨gb971, 2, none⟩ = some (.slice Ao37 t968.length co37) := (blk_cell BK971.out 2).trans rfl
    have hfz49_0 := blk_frozen BK971.out 0
    have hfz49_1 := blk_frozen BK971.out 1
    have hfz49_2 := blk_frozen BK971.out 2
    go_upto_region 8 with (first | ((with_reducible refine gate_callee (f := 34) rfl ?_); refine goesL_ (some 68) rfl rfl Try.func34 (by kernel_rfl) rfl #[.agg #[.slice Ao32 t962.length co32, .slice Ao36 t965.length co36, .slice Ao37 t968.length co37], .int .i64 t976, .int .i64 t977] rfl (by (try simp only [List.map_toArray, List.map_cons, List.map_nil]); first | done | rfl | (simp only [List.length_drop, List.length_take]; rfl)) ?_; (with_reducible refine (spans_At.calls kj2 _ _ t962 _ _ t965 _ _ t968 t976 t977 t978 t979 t980 _ ?side1 ?side2 ?side3 ?side4 ?side5 ?side6 A25.out).mono ?_); (case side1 => exact cr_ (Kd.R_reads' HO964.out).2.2); (case side2 => exact (Kd.R_reads' HO964.out).2.1); (case side3 => exact cr_ (Kd.R_reads' HO967.out).2.2); (case side4 => exact (Kd.R_reads' HO967.out).2.1); (case side5 => exact cr_ (Kd.S_reads' HO970.out).2.2); (case side6 => exact (Kd.S_reads' HO970.out).2.1); rintro e w50 ⟨rfl, hb⟩; refine ⟨_, rfl, ?_⟩; have n0_ := Aside0.mk (Kd.R_below (by (with_reducible repeat (first | apply Kd.R_alloc | apply Kd.R_drewN | apply Kd.R_drew)); exact HO964.out) hb); have n1_ := Aside0.mk (Kd.R_below (by (with_reducible repeat (first | apply Kd.R_alloc | apply Kd.R_drewN | apply Kd.R_drew)); exact HO967.out) hb); have n2_ := Aside0.mk (Kd.S_below (by (with_reducible repeat (first | apply Kd.S_alloc | apply Kd.S_drewN | apply Kd.S_drew)); exact HO970.out) hb); have n3_ := Aside0.mk (blk_below (bk_ BK957.out) hb); have n4_ := Aside0.mk (blk_below (bk_ BK958.out) hb); have n5_ := Aside0.mk (blk_below (bk_ BK971.out) hb); have n6_ := Aside0.mk (blk_below (bk_ BK975.out) hb); have n7_ := Aside0.mk (below_step (bl_ HB.out) hb); clear HO964 HO967 HO970 BK957 BK958 BK971 BK975 HB; have HO964 := n0_; have HO967 := n1_; have HO970 := n2_; have BK957 := n3_; have BK958 := n4_; have BK971 := n5_; have BK975 := n6_; have HB := n7_; clear n0_ n1_ n2_ n3_ n4_ n5_ n6_ n7_; (try clear hb); (try clear hb2); (try clear hk); (try clear hi)) | ((with_reducible refine gate_dst (N := 10) rfl ?_); refine box_event ?hg (N := 10) ?hd (cs := #[.int .i64 0, .int .i64 0]) (t := 27) ?hr ?_; (case hd => rfl); (case hg => rfl); (case hr => first | (go_simp; done) | (go_simp; rfl)); intro gb981 hg w51 hbox hb; have n0_ := Aside0.mk (Kd.R_below (by (with_reducible repeat (first | apply Kd.R_alloc | apply Kd.R_drewN | apply Kd.R_drew)); exact HO964.out) hb); have n1_ := Aside0.mk (Kd.R_below (by (with_reducible repeat (first | apply Kd.R_alloc | apply Kd.R_drewN | apply Kd.R_drew)); exact HO967.out) hb); have n2_ := Aside0.mk (Kd.S_below (by (with_reducible repeat (first | apply Kd.S_alloc | apply Kd.S_drewN | apply Kd.S_drew)); exact HO970.out) hb); have n3_ := Aside0.mk (blk_below (bk_ BK957.out) hb); have n4_ := Aside0.mk (blk_below (bk_ BK958.out) hb); have n5_ := Aside0.mk (blk_below (bk_ BK971.out) hb); have n6_ := Aside0.mk (blk_below (bk_ BK975.out) hb); have n7_ := Aside0.mk (below_step (bl_ HB.out) hb); have n8_ := Aside0.mk (hbox); have n9_ := Aside0.mk (szl_ hg HB.out); have n10_ := Aside0.mk (szl_ hg HB.out); have n11_ := Aside0.mk (nel_ hg BK957.out); have n12_ := Aside0.mk (ner_ hg BK957.out); have n13_ := Aside0.mk (nel_ hg BK958.out); have n14_ := Aside0.mk (ner_ hg BK958.out); have n15_ := Aside0.mk (nel_ hg BK971.out); have n16_ := Aside0.mk (ner_ hg BK971.out); have n17_ := Aside0.mk (nel_ hg BK975.out); have n18_ := Aside0.mk (ner_ hg BK975.out); clear HO964 HO967 HO970 BK957 BK958 BK971 BK975 HB; have HO964 := n0_; have HO967 := n1_; have HO970 := n2_; have BK957 := n3_; have BK958 := n4_; have BK971 := n5_; have BK975 := n6_; have HB := n7_; have BK981 := n8_; have GW981 := n9_; have GE981 := n10_; have NB957_981 := n11_; have NB981_957 := n12_; have NB958_981 := n13_; have NB981_958 := n14_; have NB971_981 := n15_; have NB981_971 := n16_; have NB975_981 := n17_; have NB981_975 := n18_; clear n0_ n1_ n2_ n3_ n4_ n5_ n6_ n7_ n8_ n9_ n10_ n11_ n12_ n13_ n14_ n15_ n16_ n17_ n18_ hb hbox hg; have hnb52 := NB981_957.out; have hnc52 := NB957_981.out; have hnb53 := NB981_958.out; have hnc53 := NB958_981.out; have hnb54 := NB981_971.out; have hnc54 := NB971_981.out; have hnb55 := NB981_975.out; have hnc55 := NB975_981.out; have hcz56_0 : w51.cell? ⟨gb981, 0, none⟩ = some (.int .i64 0) := (blk_cell BK981.out 0).trans rfl; have hcz56_1 : w51.cell? ⟨gb981, 1, none⟩ = some (.int .i64 0) := (blk_cell BK981.out 1).trans rfl; have hfz56_0 := blk_frozen BK981.out 0; have hfz56_1 := blk_frozen BK981.out 1; have hcz57_0 : w51.cell? ⟨gb971, 0, none⟩ = some (.slice Ao32 t962.length co32) := (blk_cell BK971.out 0).trans rfl; have hcz57_1 : w51.cell? ⟨gb971, 1, none⟩ = some (.slice Ao36 t965.length co36) := (blk_cell BK971.out 1).trans rfl; have hcz57_2 : w51.cell? ⟨gb971, 2, none⟩ = some (.slice Ao37 t968.length co37) := (blk_cell BK971.out 2).trans rfl; have hfz57_0 := blk_frozen BK971.out 0; have hfz57_1 := blk_frozen BK971.out 1; have hfz57_2 := blk_frozen BK971.out 2; have hcz58_0 : w51.cell? ⟨gb958, 0, none⟩ = some (.int .i64 a1_0) := (blk_cell BK958.out 0).trans rfl; have hcz58_1 : w51.cell? ⟨gb958, 1, none⟩ = some (.int .i64 a1_1) := (blk_cell BK958.out 1).trans rfl; have hcz58_2 : w51.cell? ⟨gb958, 2, none⟩ = some (.int .i64 a1_2) := (blk_cell BK958.out 2).trans rfl; have hcz58_3 : w51.cell? ⟨gb958, 3, none⟩ = some (.int .i64 a1_3) := (blk_cell BK958.out 3).trans rfl; have hcz58_4 : w51.cell? ⟨gb958, 4, none⟩ = some (.int .i64 a1_4) := (blk_cell BK958.out 4).trans rfl; have hcz58_5 : w51.cell? ⟨gb958, 5, none⟩ = some (.int .i64 a1_5) := (blk_cell BK958.out 5).trans rfl; have hcz58_6 : w51.cell? ⟨gb958, 6, none⟩ = some (.int .i64 a1_6) := (blk_cell BK958.out 6).trans rfl; have hcz58_7 : w51.cell? ⟨gb958, 7, none⟩ = some (.int .i64 a1_7) := (blk_cell BK958.out 7).trans rfl; have hcz58_8 : w51.cell? ⟨gb958, 8, none⟩ = some (.int .i64 a1_8) := (blk_cell BK958.out 8).trans rfl; have hcz58_9 : w51.cell? ⟨gb958, 9, none⟩ = some (.int .i64 a1_9) := (blk_cell BK958.out 9).trans rfl; have hfz58_0 := blk_frozen BK958.out 0; have hfz58_1 := blk_frozen BK958.out 1; have hfz58_2 := blk_frozen BK958.out 2; have hfz58_3 := blk_frozen BK958.out 3; have hfz58_4 := blk_frozen BK958.out 4; have hfz58_5 := blk_frozen BK958.out 5; have hfz58_6 := blk_frozen BK958.out 6; have hfz58_7 := blk_frozen BK958.out 7; have hfz58_8 := blk_frozen BK958.out 8; have hfz58_9 := blk_frozen BK958.out 9) | ((with_reducible refine gate_callee (f := 32) rfl ?_); refine goesL_ (some 79) rfl rfl Try.func32 (by kernel_rfl) rfl #[.agg #[.slice Ao32 t962.length co32, .slice Ao36 t965.length co36, .slice Ao37 t968.length co37], .agg #[.int .i64 a1_0, .int .i64 a1_1], .agg #[.int .i64 a1_2, .int .i64 a1_3]] rfl (by (try simp only [List.map_toArray, List.map_cons, List.map_nil]); first | done | rfl | (simp only [List.length_drop, List.length_take]; rfl)) ?_; (with_reducible refine (spans_Worst.calls _ _ t962 _ _ t965 _ _ t968 a1_0 a1_1 a1_2 a1_3 t982 t983 t984 _ ?side1 ?side2 ?side3 ?side4 ?side5 ?side6 A26.out).mono ?_); (case side1 => refine (Kd.R_reads' (e := 3) (base := w.heap.size) (ok := fun k_ => some k_ ≠ (.slice Ao36 t965.length co36 : Value).ownBlock) (n := t962.length) (c := co32) ?_).2.2; exact (by (with_reducible repeat (first | apply Kd.R_alloc | apply Kd.R_drewN | apply Kd.R_drew)); exact (Kd.R_mono (Kd.R_far (p := ⟨gb981, 1, none⟩) (Kd.R_far (p := ⟨gb981, 0, none⟩) (Kd.R_types HO964.out BK981.out (by decide)) (fun _ hk => hk.2) (.int .i64 t978)) (fun _ hk => hk.2) (.int .i64 t979)) (fun _ h_ => h_.1)))); (case side2 => exact (Kd.R_reads' HO964.out).2.1); (case side3 => refine (Kd.R_reads' (e := 3) (base := w.heap.size) (ok := fun k_ => some k_ ≠ (.slice Ao32 t962.length co32 : Value).ownBlock) (n := t965.length) (c := co36) ?_).2.2; exact (by (with_reducible repeat (first | apply Kd.R_alloc | apply Kd.R_drewN | apply Kd.R_drew)); exact (Kd.R_mono (Kd.R_far (p := ⟨gb981, 1, none⟩) (Kd.R_far (p := ⟨gb981, 0, none⟩) (Kd.R_types HO967.out BK981.out (by decide)) (fun _ hk => hk.2) (.int .i64 t978)) (fun _ hk => hk.2) (.int .i64 t979)) (fun _ h_ => h_.1)))); (case side4 => exact (Kd.R_reads' HO967.out).2.1); (case side5 => refine (Kd.S_reads' (e := 22) (base := w.heap.size) (ok := fun k_ => (some k_ ≠ (.slice Ao32 t962.length co32 : Value).ownBlock ∧ some k_ ≠ (.slice Ao36 t965.length co36 : Value).ownBlock)) (n := t968.length) (c := co37) ?_).2.2; exact (by (with_reducible repeat (first | apply Kd.S_alloc | apply Kd.S_drewN | apply Kd.S_drew)); exact (Kd.S_mono (Kd.S_far (p := ⟨gb981, 1, none⟩) (Kd.S_far (p := ⟨gb981, 0, none⟩) (Kd.S_types HO970.out BK981.out (by decide)) (fun _ hk => hk.2) (.int .i64 t978)) (fun _ hk => hk.2) (.int .i64 t979)) (fun _ h_ => h_.1)))); (case side6 => exact (Kd.S_reads' HO970.out).2.1); rintro e w59 ⟨rfl, hb⟩; refine ⟨_, rfl, ?_⟩; have n0_ := Aside0.mk (Kd.R_below (by (with_reducible repeat (first | apply Kd.R_alloc | apply Kd.R_drewN | apply Kd.R_drew)); exact (Kd.R_mono (Kd.R_far (p := ⟨gb981, 1, none⟩) (Kd.R_far (p := ⟨gb981, 0, none⟩) (Kd.R_types HO964.out BK981.out (by decide)) (fun _ hk => hk.2) (.int .i64 t978)) (fun _ hk => hk.2) (.int .i64 t979)) (fun _ h_ => h_.1))) hb); have n1_ := Aside0.mk (Kd.R_below (by (with_reducible repeat (first | apply Kd.R_alloc | apply Kd.R_drewN | apply Kd.R_drew)); exact (Kd.R_mono (Kd.R_far (p := ⟨gb981, 1, none⟩) (Kd.R_far (p := ⟨gb981, 0, none⟩) (Kd.R_types HO967.out BK981.out (by decide)) (fun _ hk => hk.2) (.int .i64 t978)) (fun _ hk => hk.2) (.int .i64 t979)) (fun _ h_ => h_.1))) hb); have n2_ := Aside0.mk (Kd.S_below (by (with_reducible repeat (first | apply Kd.S_alloc | apply Kd.S_drewN | apply Kd.S_drew)); exact (Kd.S_mono (Kd.S_far (p := ⟨gb981, 1, none⟩) (Kd.S_far (p := ⟨gb981, 0, none⟩) (Kd.S_types HO970.out BK981.out (by decide)) (fun _ hk => hk.2) (.int .i64 t978)) (fun _ hk => hk.2) (.int .i64 t979)) (fun _ h_ => h_.1))) hb); have n3_ := Aside0.mk (blk_below (g := gb957) (o := .cells #[.slice A0_0 l0_0.length c0_0, .slice A0_1 l0_1.length c0_1, .slice A0_2 l0_2.length c0_2] 25 (0, 0)) (by (with_reducible repeat (first | refine blk_drewN ?_ _ | refine blk_drew ?_ | refine blk_alloc ?_ _)); refine blk_far ?_ NB957_981.out _; (with_reducible repeat (first | refine blk_drewN ?_ _ | refine blk_drew ?_ | refine blk_alloc ?_ _)); refine blk_far ?_ NB957_981.out _; (with_reducible repeat (first | refine blk_drewN ?_ _ | refine blk_drew ?_ | refine blk_alloc ?_ _)); exact BK957.out) hb); have n4_ := Aside0.mk (blk_below (g := gb958) (o := .cells #[.int .i64 a1_0, .int .i64 a1_1, .int .i64 a1_2, .int .i64 a1_3, .int .i64 a1_4, .int .i64 a1_5, .int .i64 a1_6, .int .i64 a1_7, .int .i64 a1_8, .int .i64 a1_9] 86 (0, 0)) (by (with_reducible repeat (first | refine blk_drewN ?_ _ | refine blk_drew ?_ | refine blk_alloc ?_ _)); refine blk_far ?_ NB958_981.out _; (with_reducible repeat (first | refine blk_drewN ?_ _ | refine blk_drew ?_ | refine blk_alloc ?_ _)); refine blk_far ?_ NB958_981.out _; (with_reducible repeat (first | refine blk_drewN ?_ _ | refine blk_drew ?_ | refine blk_alloc ?_ _)); exact BK958.out) hb); have n5_ := Aside0.mk (blk_below (g := gb971) (o := .cells #[.slice Ao32 t962.length co32, .slice Ao36 t965.length co36, .slice Ao37 t968.length co37] 25 (0, 0)) (by (with_reducible repeat (first | refine blk_drewN ?_ _ | refine blk_drew ?_ | refine blk_alloc ?_ _)); refine blk_far ?_ NB971_981.out _; (with_reducible repeat (first | refine blk_drewN ?_ _ | refine blk_drew ?_ | refine blk_alloc ?_ _)); refine blk_far ?_ NB971_981.out _; (with_reducible repeat (first | refine blk_drewN ?_ _ | refine blk_drew ?_ | refine blk_alloc ?_ _)); exact BK971.out) hb); have n6_ := Aside0.mk (blk_below (g := gb975) (o := .cells #[.int .i64 t972, .int .i64 t973] 27 (0, 0)) (by (with_reducible repeat (first | refine blk_drewN ?_ _ | refine blk_drew ?_ | refine blk_alloc ?_ _)); refine blk_far ?_ NB975_981.out _; (with_reducible repeat (first | refine blk_drewN ?_ _ | refine blk_drew ?_ | refine blk_alloc ?_ _)); refine blk_far ?_ NB975_981.out _; (with_reducible repeat (first | refine blk_drewN ?_ _ | refine blk_drew ?_ | refine blk_alloc ?_ _)); exact BK975.out) hb); have n7_ := Aside0.mk (blk_below (g := gb981) (o := .cells #[.int .i64 t978, .int .i64 t979] 27 (0, 0)) (by (with_reducible repeat (first | refine blk_drewN ?_ _ | refine blk_drew ?_ | refine blk_alloc ?_ _)); refine blk_put (cs := #[.int .i64 t978, .int .i64 0]) ?_ 1 _ rfl; (with_reducible repeat (first | refine blk_drewN ?_ _ | refine blk_drew ?_ | refine blk_alloc ?_ _)); refine blk_put (cs := #[.int .i64 0, .int .i64 0]) ?_ 0 _ rfl; (with_reducible repeat (first | refine blk_drewN ?_ _ | refine blk_drew ?_ | refine blk_alloc ?_ _)); exact BK981.out) hb); have n8_ := Aside0.mk (below_step (bl_ HB.out) hb); clear HO964 HO967 HO970 BK957 BK958 BK971 BK975 BK981 HB; have HO964 := n0_; have HO967 := n1_; have HO970 := n2_; have BK957 := n3_; have BK958 := n4_; have BK971 := n5_; have BK975 := n6_; have BK981 := n7_; have HB := n8_; clear n0_ n1_ n2_ n3_ n4_ n5_ n6_ n7_ n8_; (try clear hb); (try clear hb2); (try clear hk); (try clear hi)))
    (try simp only [Act.put, List.setIfInBounds_toArray, List.set_cons_zero, List.set_cons_succ])
    go_cut [106] (fun v106 wc => ∃ (kq : Nat) (x106_26 : Bool), v106 = .bool x106_26 ∧ Aside0 (swashplatelaw01_SpansInside.j1 kq t982 t983 x106_26 a1_0 a1_1 a1_2 a1_3 a1_4 a1_5 a1_6 a1_7 a1_8 a1_9 t962 t965 t968 t972 t973 = some r) ∧ Aside0 (kq ≤ kj2) ∧ Aside0 (Kd.R (Kd.int .i64) 3 wc w.heap.size (fun k_ => some k_ ≠ ((.slice Ao36 t965.length co36) : Value).ownBlock) (.slice Ao32 t962.length co32) t962) ∧ Aside0 (Kd.R (Kd.int .i64) 3 wc w.heap.size (fun k_ => some k_ ≠ ((.slice Ao32 t962.length co32) : Value).ownBlock) (.slice Ao36 t965.length co36) t965) ∧ Aside0 (Kd.S (Kd.slice 3 (Kd.int .i64)) 22 wc w.heap.size (fun k_ => some k_ ≠ ((.slice Ao32 t962.length co32) : Value).ownBlock ∧ some k_ ≠ ((.slice Ao36 t965.length co36) : Value).ownBlock) (.slice Ao37 t968.length co37) t968) ∧ Aside0 (wc.heap[gb957]? = some (.cells #[(.slice A0_0 l0_0.length c0_0), (.slice A0_1 l0_1.length c0_1), (.slice A0_2 l0_2.length c0_2)] 25 (0, 0))) ∧ Aside0 (wc.heap[gb958]? = some (.cells #[.int .i64 a1_0, .int .i64 a1_1, .int .i64 a1_2, .int .i64 a1_3, .int .i64 a1_4, .int .i64 a1_5, .int .i64 a1_6, .int .i64 a1_7, .int .i64 a1_8, .int .i64 a1_9] 86 (0, 0))) ∧ Aside0 (wc.heap[gb971]? = some (.cells #[(.slice Ao32 t962.length co32), (.slice Ao36 t965.length co36), (.slice Ao37 t968.length co37)] 25 (0, 0))) ∧ Aside0 (wc.heap[gb975]? = some (.cells #[.int .i64 t972, .int .i64 t973] 27 (0, 0))) ∧ Aside0 (wc.heap[gb981]? = some (.cells #[.int .i64 t978, .int .i64 t979] 27 (0, 0))) ∧ Aside0 (Below w.heap.size w wc))
    case first =>
     as_aux_lemma =>
     have H := HC27.out
     clear HC27
     by_cases c60 : t974 = 0
     ·
      rw [if_pos c60] at H
      have c60b0 : (t974 == 0) = true := beq_iff_eq.mpr c60
      have c60b1 : (t974 != 0) = false := bne_eq_false_iff_eq.mpr c60
      clear c60
      (first | rw [c60b0] | (simp only [i64_w, i32_w]; rw [c60b0]) | skip)
      by_cases c61 : t980 = 0
      ·
       rw [if_pos c61] at H
       have c61b0 : (t980 == 0) = true := beq_iff_eq.mpr c61
       have c61b1 : (t980 != 0) = false := bne_eq_false_iff_eq.mpr c61
       clear c61
       by_cases c62 : t984 = 0
       ·
        rw [if_pos c62] at H
        have c62b0 : (t984 == 0) = true := beq_iff_eq.mpr c62
        have c62b1 : (t984 != 0) = false := bne_eq_false_iff_eq.mpr c62
        clear c62
        by_cases c63 : t978 < t972
        ·
         rw [if_pos c63] at H
         exact absurd ((swashplatelaw01_SpansInside.j1_true H).symm.trans hrT.out) (by decide)
        ·
         rw [if_neg c63] at H
         have c63b0 : decide (t978 < t972) = false := decide_eq_false c63
         clear c63
         have H' := Aside0.mk H
         clear H
         have hnb73 := NB981_957.out
         have hnc73 := NB957_981.out
         have hnb74 := NB981_958.out
         have hnc74 := NB958_981.out
         have hnb75 := NB981_971.out
         have hnc75 := NB971_981.out
         have hnb76 := NB981_975.out
         have hnc76 := NB975_981.out
         have hcz77_0 : w59.cell? ⟨gb981, 0, none⟩ = some (.int .i64 t978) := (blk_cell BK981.out 0).trans rfl
         have hcz77_1 : w59.cell? ⟨gb981, 1, none⟩ = some (.int .i64 t979) := (blk_cell BK981.out 1).trans rfl
         have hfz77_0 := blk_frozen BK981.out 0
         have hfz77_1 := blk_frozen BK981.out 1
         have hnb78 := NB975_957.out
         have hnc78 := NB957_975.out
         have hnb79 := NB975_958.out
         have hnc79 := NB958_975.out
         have hnb80 := NB975_971.out
         have hnc80 := NB971_975.out
         have hcz81_0 : w59.cell? ⟨gb975, 0, none⟩ = some (.int .i64 t972) := (blk_cell BK975.out 0).trans rfl
         have hcz81_1 : w59.cell? ⟨gb975, 1, none⟩ = some (.int .i64 t973) := (blk_cell BK975.out 1).trans rfl
         have hfz81_0 := blk_frozen BK975.out 0
         have hfz81_1 := blk_frozen BK975.out 1
         go_wp2
         go_meet
         case rel => exact ⟨_, (decide (t979 > t973)), (by first | rfl | (simp; done) | (simp [*]; done)), H', ⟨by have := HJ2.out; first | omega | exact Nat.le_refl _⟩, ⟨by (with_reducible repeat (first | apply Kd.R_alloc | apply Kd.R_drewN | apply Kd.R_drew)); exact HO964.out⟩, ⟨by (with_reducible repeat (first | apply Kd.R_alloc | apply Kd.R_drewN | apply Kd.R_drew)); exact HO967.out⟩, ⟨by (with_reducible repeat (first | apply Kd.S_alloc | apply Kd.S_drewN | apply Kd.S_drew)); exact HO970.out⟩, ⟨bk_ BK957.out⟩, ⟨bk_ BK958.out⟩, ⟨bk_ BK971.out⟩, ⟨bk_ BK975.out⟩, ⟨bk_ BK981.out⟩, ⟨bl_ HB.out⟩⟩
       ·
        rw [if_neg c62] at H
        exact absurd ((swashplatelaw01_SpansInside.j1_true H).symm.trans hrT.out) (by decide)
      ·
       rw [if_neg c61] at H
       exact absurd ((swashplatelaw01_SpansInside.j1_true H).symm.trans hrT.out) (by decide)
     ·
      rw [if_neg c60] at H
      exact absurd ((swashplatelaw01_SpansInside.j1_true H).symm.trans hrT.out) (by decide)
    case rest =>
     as_aux_lemma =>
     clear HC27
     try clear c1
     try clear c2
     try clear p2
     try clear c3
     try clear c4
     try clear c5
     try clear c6
     try clear c7
     try clear c8
     try clear c10
     try clear c12
     try clear c18
     try clear c20
     try clear c22
     try clear c24
     try clear c28
     try clear c30
     try clear c32
     try clear c33
     try clear c34
     try clear c41
     try clear c42
     try clear c43
     try clear c52
     try clear c53
     try clear c54
     try clear c55
     try clear c60
     try clear c60b0
     try clear c60b1
     try clear c61
     try clear c61b0
     try clear c61b1
     try clear c62
     try clear c62b0
     try clear c62b1
     try clear c63
     try clear c63b0
     try clear c64
     try clear c65
     try clear c66
     try clear c67
     try clear c69
     try clear c70
     try clear c71
     try clear c73
     try clear c74
     try clear c75
     try clear c76
     try clear c78
     try clear c79
     try clear c80
     try clear hcz13_0
     try clear hcz13_1
     try clear hcz13_2
     try clear hcz15_0
     try clear hcz15_1
     try clear hcz15_2
     try clear hcz16_0
     try clear hcz16_1
     try clear hcz16_2
     try clear hcz16_3
     try clear hcz16_4
     try clear hcz16_5
     try clear hcz16_6
     try clear hcz16_7
     try clear hcz16_8
     try clear hcz16_9
     try clear hcz29_0
     try clear hcz29_1
     try clear hcz29_2
     try clear hcz35_0
     try clear hcz35_1
     try clear hcz35_2
     try clear hcz38_0
     try clear hcz38_1
     try clear hcz38_2
     try clear hcz38_3
     try clear hcz38_4
     try clear hcz38_5
     try clear hcz38_6
     try clear hcz38_7
     try clear hcz38_8
     try clear hcz38_9
     try clear hcz44_0
     try clear hcz44_1
     try clear hcz49_0
     try clear hcz49_1
     try clear hcz49_2
     try clear hcz56_0
     try clear hcz56_1
     try clear hcz57_0
     try clear hcz57_1
     try clear hcz57_2
     try clear hcz58_0
     try clear hcz58_1
     try clear hcz58_2
     try clear hcz58_3
     try clear hcz58_4
     try clear hcz58_5
     try clear hcz58_6
     try clear hcz58_7
     try clear hcz58_8
     try clear hcz58_9
     try clear hcz68_0
     try clear hcz68_1
     try clear hcz72_0
     try clear hcz72_1
     try clear hcz77_0
     try clear hcz77_1
     try clear hcz81_0
     try clear hcz81_1
     try clear hcz9_0
     try clear hcz9_1
     try clear hcz9_2
     try clear hfz13_0
     try clear hfz13_1
     try clear hfz13_2
     try clear hfz15_0
     try clear hfz15_1
     try clear hfz15_2
     try clear hfz16_0
     try clear hfz16_1
     try clear hfz16_2
     try clear hfz16_3
     try clear hfz16_4
     try clear hfz16_5
     try clear hfz16_6
     try clear hfz16_7
     try clear hfz16_8
     try clear hfz16_9
     try clear hfz29_0
     try clear hfz29_1
     try clear hfz29_2
     try clear hfz35_0
     try clear hfz35_1
     try clear hfz35_2
     try clear hfz38_0
     try clear hfz38_1
     try clear hfz38_2
     try clear hfz38_3
     try clear hfz38_4
     try clear hfz38_5
     try clear hfz38_6
     try clear hfz38_7
     try clear hfz38_8
     try clear hfz38_9
     try clear hfz44_0
     try clear hfz44_1
     try clear hfz49_0
     try clear hfz49_1
     try clear hfz49_2
     try clear hfz56_0
     try clear hfz56_1
     try clear hfz57_0
     try clear hfz57_1
     try clear hfz57_2
     try clear hfz58_0
     try clear hfz58_1
     try clear hfz58_2
     try clear hfz58_3
     try clear hfz58_4
     try clear hfz58_5
     try clear hfz58_6
     try clear hfz58_7
     try clear hfz58_8
     try clear hfz58_9
     try clear hfz68_0
     try clear hfz68_1
     try clear hfz72_0
     try clear hfz72_1
     try clear hfz77_0
     try clear hfz77_1
     try clear hfz81_0
     try clear hfz81_1
     try clear hfz9_0
     try clear hfz9_1
     try clear hfz9_2
     try clear p2
     obtain ⟨kq, x106_26, rfl, HA, HJ26, HO_972000, HO_972001, HO_972002, BK957, BK958, BK971, BK975, BK981, HB⟩ := hcut
     cases kq with
     | zero => exact absurd HA.out (by simp [swashplatelaw01_SpansInside.j1])
     | succ kj26 =>
      have H := HA.out
      clear HA
      simp only [swashplatelaw01_SpansInside.j1] at H
      by_cases c82 : x106_26 = true
      ·
       subst c82
       have H1 : (some false) = some r := by rw [if_pos rfl] at H; exact H
       clear H
       have H := H1
       clear H1
       exact absurd ((Option.some.inj H).trans hrT.out) (by decide)
      ·
       replace c82 := Bool.eq_false_iff.mpr c82
       subst c82
       have H1 : ((spans_At.f kj26 t962 t965 t968 t982 t983).bind fun bt985 => (if bt985.2.2 = 0 then (if bt985.2.1 = t973 then (if t982 < a1_0 then (swashplatelaw01_SpansInside.j2 kj26 true a1_0 a1_1 a1_2 a1_3 a1_4 a1_5 a1_6 a1_7 a1_8 a1_9 t962 t965 t968 t972 t973) else (if t982 > a1_1 then (swashplatelaw01_SpansInside.j2 kj26 true a1_0 a1_1 a1_2 a1_3 a1_4 a1_5 a1_6 a1_7 a1_8 a1_9 t962 t965 t968 t972 t973) else (if t983 < a1_2 then (swashplatelaw01_SpansInside.j2 kj26 true a1_0 a1_1 a1_2 a1_3 a1_4 a1_5 a1_6 a1_7 a1_8 a1_9 t962 t965 t968 t972 t973) else (swashplatelaw01_SpansInside.j2 kj26 (decide (t983 > a1_3)) a1_0 a1_1 a1_2 a1_3 a1_4 a1_5 a1_6 a1_7 a1_8 a1_9 t962 t965 t968 t972 t973)))) else (swashplatelaw01_SpansInside.j2 kj26 true a1_0 a1_1 a1_2 a1_3 a1_4 a1_5 a1_6 a1_7 a1_8 a1_9 t962 t965 t968 t972 t973)) else (swashplatelaw01_SpansInside.j2 kj26 true a1_0 a1_1 a1_2 a1_3 a1_4 a1_5 a1_6 a1_7 a1_8 a1_9 t962 t965 t968 t972 t973))) = some r := by rw [if_neg (show ¬ (false = true) by decide)] at H; exact H
       clear H
       have H := H1
       clear H1
       replace H := Option.bind_eq_some_iff.mp H
       obtain ⟨⟨t985, t986, t987⟩, A830, H⟩ := H
       replace H : (if t987 = 0 then (if t986 = t973 then (if t982 < a1_0 then (swashplatelaw01_SpansInside.j2 kj26 true a1_0 a1_1 a1_2 a1_3 a1_4 a1_5 a1_6 a1_7 a1_8 a1_9 t962 t965 t968 t972 t973) else (if t982 > a1_1 then (swashplatelaw01_SpansInside.j2 kj26 true a1_0 a1_1 a1_2 a1_3 a1_4 a1_5 a1_6 a1_7 a1_8 a1_9 t962 t965 t968 t972 t973) else (if t983 < a1_2 then (swashplatelaw01_SpansInside.j2 kj26 true a1_0 a1_1 a1_2 a1_3 a1_4 a1_5 a1_6 a1_7 a1_8 a1_9 t962 t965 t968 t972 t973) else (swashplatelaw01_SpansInside.j2 kj26 (decide (t983 > a1_3)) a1_0 a1_1 a1_2 a1_3 a1_4 a1_5 a1_6 a1_7 a1_8 a1_9 t962 t965 t968 t972 t973)))) else (swashplatelaw01_SpansInside.j2 kj26 true a1_0 a1_1 a1_2 a1_3 a1_4 a1_5 a1_6 a1_7 a1_8 a1_9 t962 t965 t968 t972 t973)) else (swashplatelaw01_SpansInside.j2 kj26 true a1_0 a1_1 a1_2 a1_3 a1_4 a1_5 a1_6 a1_7 a1_8 a1_9 t962 t965 t968 t972 t973)) = some r := H
       have A83 := Aside0.mk A830
       clear A830
       have HC84 := Aside0.mk H
       clear H
       have hnb85 := NB971_957.out
       have hnc85 := NB957_971.out
       have hnb86 := NB971_958.out
       have hnc86 := NB958_971.out
       have hnb87 := NB971_975.out
       have hnc87 := NB975_971.out
       have hnb88 := NB971_981.out
       have hnc88 := NB981_971.out
       have hcz89_0 : wc.cell? ⟨gb971, 0, none⟩ = some (.slice Ao32 t962.length co32) := (blk_cell BK971.out 0).trans rfl
       have hcz89_1 : wc.cell? ⟨gb971, 1, none⟩ = some (.slice Ao36 t965.length co36) := (blk_cell BK971.out 1).trans rfl
       have hcz89_2 : wc.cell? ⟨gb971, 2, none⟩ = some (.slice Ao37 t968.length co37) := (blk_cell BK971.out 2).trans rfl
       have hfz89_0 := blk_frozen BK971.out 0
       have hfz89_1 := blk_frozen BK971.out 1
       have hfz89_2 := blk_frozen BK971.out 2
       go_upto_region 11 with (first | ((with_reducible refine gate_callee (f := 34) rfl ?_); refine goesL_ (some 111) rfl rfl Try.func34 (by kernel_rfl) rfl #[.agg #[.slice Ao32 t962.length co32, .slice Ao36 t965.length co36, .slice Ao37 t968.length co37], .int .i64 t982, .int .i64 t983] rfl (by (try simp only [List.map_toArray, List.map_cons, List.map_nil]); first | done | rfl | (simp only [List.length_drop, List.length_take]; rfl)) ?_; (with_reducible refine (spans_At.calls kj26 _ _ t962 _ _ t965 _ _ t968 t982 t983 t985 t986 t987 _ ?side1 ?side2 ?side3 ?side4 ?side5 ?side6 A83.out).mono ?_); (case side1 => exact cr_ (Kd.R_reads' HO_972000.out).2.2); (case side2 => exact (Kd.R_reads' HO_972000.out).2.1); (case side3 => exact cr_ (Kd.R_reads' HO_972001.out).2.2); (case side4 => exact (Kd.R_reads' HO_972001.out).2.1); (case side5 => exact cr_ (Kd.S_reads' HO_972002.out).2.2); (case side6 => exact (Kd.S_reads' HO_972002.out).2.1); rintro e w90 ⟨rfl, hb⟩; refine ⟨_, rfl, ?_⟩; have n0_ := Aside0.mk (Kd.R_below (by (with_reducible repeat (first | apply Kd.R_alloc | apply Kd.R_drewN | apply Kd.R_drew)); exact HO_972000.out) hb); have n1_ := Aside0.mk (Kd.R_below (by (with_reducible repeat (first | apply Kd.R_alloc | apply Kd.R_drewN | apply Kd.R_drew)); exact HO_972001.out) hb); have n2_ := Aside0.mk (Kd.S_below (by (with_reducible repeat (first | apply Kd.S_alloc | apply Kd.S_drewN | apply Kd.S_drew)); exact HO_972002.out) hb); have n3_ := Aside0.mk (blk_below (bk_ BK957.out) hb); have n4_ := Aside0.mk (blk_below (bk_ BK958.out) hb); have n5_ := Aside0.mk (blk_below (bk_ BK971.out) hb); have n6_ := Aside0.mk (blk_below (bk_ BK975.out) hb); have n7_ := Aside0.mk (blk_below (bk_ BK981.out) hb); have n8_ := Aside0.mk (below_step (bl_ HB.out) hb); clear HO_972000 HO_972001 HO_972002 BK957 BK958 BK971 BK975 BK981 HB; have HO_972000 := n0_; have HO_972001 := n1_; have HO_972002 := n2_; have BK957 := n3_; have BK958 := n4_; have BK971 := n5_; have BK975 := n6_; have BK981 := n7_; have HB := n8_; clear n0_ n1_ n2_ n3_ n4_ n5_ n6_ n7_ n8_; (try clear hb); (try clear hb2); (try clear hk); (try clear hi)) | ((with_reducible refine gate_dst (N := 15) rfl ?_); refine box_event ?hg (N := 15) ?hd (cs := #[.int .i64 0, .int .i64 0]) (t := 27) ?hr ?_; (case hd => rfl); (case hg => rfl); (case hr => first | (go_simp; done) | (go_simp; rfl)); intro gb988 hg w91 hbox hb; have n0_ := Aside0.mk (Kd.R_below (by (with_reducible repeat (first | apply Kd.R_alloc | apply Kd.R_drewN | apply Kd.R_drew)); exact HO_972000.out) hb); have n1_ := Aside0.mk (Kd.R_below (by (with_reducible repeat (first | apply Kd.R_alloc | apply Kd.R_drewN | apply Kd.R_drew)); exact HO_972001.out) hb); have n2_ := Aside0.mk (Kd.S_below (by (with_reducible repeat (first | apply Kd.S_alloc | apply Kd.S_drewN | apply Kd.S_drew)); exact HO_972002.out) hb); have n3_ := Aside0.mk (blk_below (bk_ BK957.out) hb); have n4_ := Aside0.mk (blk_below (bk_ BK958.out) hb); have n5_ := Aside0.mk (blk_below (bk_ BK971.out) hb); have n6_ := Aside0.mk (blk_below (bk_ BK975.out) hb); have n7_ := Aside0.mk (blk_below (bk_ BK981.out) hb); have n8_ := Aside0.mk (below_step (bl_ HB.out) hb); have n9_ := Aside0.mk (hbox); have n10_ := Aside0.mk (szl_ hg HB.out); have n11_ := Aside0.mk (szl_ hg HB.out); have n12_ := Aside0.mk (nel_ hg BK957.out); have n13_ := Aside0.mk (ner_ hg BK957.out); have n14_ := Aside0.mk (nel_ hg BK958.out); have n15_ := Aside0.mk (ner_ hg BK958.out); have n16_ := Aside0.mk (nel_ hg BK971.out); have n17_ := Aside0.mk (ner_ hg BK971.out); have n18_ := Aside0.mk (nel_ hg BK975.out); have n19_ := Aside0.mk (ner_ hg BK975.out); have n20_ := Aside0.mk (nel_ hg BK981.out); have n21_ := Aside0.mk (ner_ hg BK981.out); clear HO_972000 HO_972001 HO_972002 BK957 BK958 BK971 BK975 BK981 HB; have HO_972000 := n0_; have HO_972001 := n1_; have HO_972002 := n2_; have BK957 := n3_; have BK958 := n4_; have BK971 := n5_; have BK975 := n6_; have BK981 := n7_; have HB := n8_; have BK988 := n9_; have GW988 := n10_; have GE988 := n11_; have NB957_988 := n12_; have NB988_957 := n13_; have NB958_988 := n14_; have NB988_958 := n15_; have NB971_988 := n16_; have NB988_971 := n17_; have NB975_988 := n18_; have NB988_975 := n19_; have NB981_988 := n20_; have NB988_981 := n21_; clear n0_ n1_ n2_ n3_ n4_ n5_ n6_ n7_ n8_ n9_ n10_ n11_ n12_ n13_ n14_ n15_ n16_ n17_ n18_ n19_ n20_ n21_ hb hbox hg; have hnb92 := NB988_957.out; have hnc92 := NB957_988.out; have hnb93 := NB988_958.out; have hnc93 := NB958_988.out; have hnb94 := NB988_971.out; have hnc94 := NB971_988.out; have hnb95 := NB988_975.out; have hnc95 := NB975_988.out; have hnb96 := NB988_981.out; have hnc96 := NB981_988.out; have hcz97_0 : w91.cell? ⟨gb988, 0, none⟩ = some (.int .i64 0) := (blk_cell BK988.out 0).trans rfl; have hcz97_1 : w91.cell? ⟨gb988, 1, none⟩ = some (.int .i64 0) := (blk_cell BK988.out 1).trans rfl; have hfz97_0 := blk_frozen BK988.out 0; have hfz97_1 := blk_frozen BK988.out 1))
       (try simp only [Act.put, List.setIfInBounds_toArray, List.set_cons_zero, List.set_cons_succ])
       go_cut [154] (fun v154 wc => ∃ (kq : Nat) (x154_83 : Bool), v154 = .bool x154_83 ∧ Aside0 (swashplatelaw01_SpansInside.j2 kq x154_83 a1_0 a1_1 a1_2 a1_3 a1_4 a1_5 a1_6 a1_7 a1_8 a1_9 t962 t965 t968 t972 t973 = some r) ∧ Aside0 (kq ≤ kj26) ∧ Aside0 (Kd.R (Kd.int .i64) 3 wc w.heap.size (fun k_ => some k_ ≠ ((.slice Ao36 t965.length co36) : Value).ownBlock) (.slice Ao32 t962.length co32) t962) ∧ Aside0 (Kd.R (Kd.int .i64) 3 wc w.heap.size (fun k_ => some k_ ≠ ((.slice Ao32 t962.length co32) : Value).ownBlock) (.slice Ao36 t965.length co36) t965) ∧ Aside0 (Kd.S (Kd.slice 3 (Kd.int .i64)) 22 wc w.heap.size (fun k_ => some k_ ≠ ((.slice Ao32 t962.length co32) : Value).ownBlock ∧ some k_ ≠ ((.slice Ao36 t965.length co36) : Value).ownBlock) (.slice Ao37 t968.length co37) t968) ∧ Aside0 (wc.heap[gb957]? = some (.cells #[(.slice A0_0 l0_0.length c0_0), (.slice A0_1 l0_1.length c0_1), (.slice A0_2 l0_2.length c0_2)] 25 (0, 0))) ∧ Aside0 (wc.heap[gb958]? = some (.cells #[.int .i64 a1_0, .int .i64 a1_1, .int .i64 a1_2, .int .i64 a1_3, .int .i64 a1_4, .int .i64 a1_5, .int .i64 a1_6, .int .i64 a1_7, .int .i64 a1_8, .int .i64 a1_9] 86 (0, 0))) ∧ Aside0 (wc.heap[gb971]? = some (.cells #[(.slice Ao32 t962.length co32), (.slice Ao36 t965.length co36), (.slice Ao37 t968.length co37)] 25 (0, 0))) ∧ Aside0 (wc.heap[gb975]? = some (.cells #[.int .i64 t972, .int .i64 t973] 27 (0, 0))) ∧ Aside0 (wc.heap[gb981]? = some (.cells #[.int .i64 t978, .int .i64 t979] 27 (0, 0))) ∧ Aside0 (wc.heap[gb988]? = some (.cells #[.int .i64 t985, .int .i64 t986] 27 (0, 0))) ∧ Aside0 (Below w.heap.size w wc))
       case first =>
        as_aux_lemma =>
        have H := HC84.out
        clear HC84
        by_cases c98 : t987 = 0
        ·
         rw [if_pos c98] at H
         have c98b0 : (t987 == 0) = true := beq_iff_eq.mpr c98
         have c98b1 : (t987 != 0) = false := bne_eq_false_iff_eq.mpr c98
         clear c98
         (first | rw [c98b0] | (simp only [i64_w, i32_w]; rw [c98b0]) | skip)
         by_cases c99 : t986 = t973
         ·
          rw [if_pos c99] at H
          have c99b0 : (t986 == t973) = true := beq_iff_eq.mpr c99
          have c99b1 : (t986 != t973) = false := bne_eq_false_iff_eq.mpr c99
          clear c99
          by_cases c100 : t982 < a1_0
          ·
           rw [if_pos c100] at H
           exact absurd ((swashplatelaw01_SpansInside.j2_true H).symm.trans hrT.out) (by decide)
          ·
           rw [if_neg c100] at H
           have c100b0 : decide (t982 < a1_0) = false := decide_eq_false c100
           clear c100
           by_cases c116 : t982 > a1_1
           ·
            rw [if_pos c116] at H
            exact absurd ((swashplatelaw01_SpansInside.j2_true H).symm.trans hrT.out) (by decide)
           ·
            rw [if_neg c116] at H
            have c116b0 : decide (a1_1 < t982) = false := decide_eq_false c116
            clear c116
            by_cases c132 : t983 < a1_2
            ·
             rw [if_pos c132] at H
             exact absurd ((swashplatelaw01_SpansInside.j2_true H).symm.trans hrT.out) (by decide)
            ·
             rw [if_neg c132] at H
             have c132b0 : decide (t983 < a1_2) = false := decide_eq_false c132
             clear c132
             have H' := Aside0.mk H
             clear H
             have hnb148 := NB988_957.out
             have hnc148 := NB957_988.out
             have hnb149 := NB988_958.out
             have hnc149 := NB958_988.out
             have hnb150 := NB988_971.out
             have hnc150 := NB971_988.out
             have hnb151 := NB988_975.out
             have hnc151 := NB975_988.out
             have hnb152 := NB988_981.out
             have hnc152 := NB981_988.out
             have hcz153_0 : w91.cell? ⟨gb988, 0, none⟩ = some (.int .i64 0) := (blk_cell BK988.out 0).trans rfl
             have hcz153_1 : w91.cell? ⟨gb988, 1, none⟩ = some (.int .i64 0) := (blk_cell BK988.out 1).trans rfl
             have hfz153_0 := blk_frozen BK988.out 0
             have hfz153_1 := blk_frozen BK988.out 1
             have hnb154 := NB975_957.out
             have hnc154 := NB957_975.out
             have hnb155 := NB975_958.out
             have hnc155 := NB958_975.out
             have hnb156 := NB975_971.out
             have hnc156 := NB971_975.out
             have hnb157 := NB975_981.out
             have hnc157 := NB981_975.out
             have hcz158_0 : w91.cell? ⟨gb975, 0, none⟩ = some (.int .i64 t972) := (blk_cell BK975.out 0).trans rfl
             have hcz158_1 : w91.cell? ⟨gb975, 1, none⟩ = some (.int .i64 t973) := (blk_cell BK975.out 1).trans rfl
             have hfz158_0 := blk_frozen BK975.out 0
             have hfz158_1 := blk_frozen BK975.out 1
             have hnb159 := NB958_957.out
             have hnc159 := NB957_958.out
             have hnb160 := NB958_971.out
             have hnc160 := NB971_958.out
             have hnb161 := NB958_981.out
             have hnc161 := NB981_958.out
             have hcz162_0 : w91.cell? ⟨gb958, 0, none⟩ = some (.int .i64 a1_0) := (blk_cell BK958.out 0).trans rfl
             have hcz162_1 : w91.cell? ⟨gb958, 1, none⟩ = some (.int .i64 a1_1) := (blk_cell BK958.out 1).trans rfl
             have hcz162_2 : w91.cell? ⟨gb958, 2, none⟩ = some (.int .i64 a1_2) := (blk_cell BK958.out 2).trans rfl
             have hcz162_3 : w91.cell? ⟨gb958, 3, none⟩ = some (.int .i64 a1_3) := (blk_cell BK958.out 3).trans rfl
             have hcz162_4 : w91.cell? ⟨gb958, 4, none⟩ = some (.int .i64 a1_4) := (blk_cell BK958.out 4).trans rfl
             have hcz162_5 : w91.cell? ⟨gb958, 5, none⟩ = some (.int .i64 a1_5) := (blk_cell BK958.out 5).trans rfl
             have hcz162_6 : w91.cell? ⟨gb958, 6, none⟩ = some (.int .i64 a1_6) := (blk_cell BK958.out 6).trans rfl
             have hcz162_7 : w91.cell? ⟨gb958, 7, none⟩ = some (.int .i64 a1_7) := (blk_cell BK958.out 7).trans rfl
             have hcz162_8 : w91.cell? ⟨gb958, 8, none⟩ = some (.int .i64 a1_8) := (blk_cell BK958.out 8).trans rfl
             have hcz162_9 : w91.cell? ⟨gb958, 9, none⟩ = some (.int .i64 a1_9) := (blk_cell BK958.out 9).trans rfl
             have hfz162_0 := blk_frozen BK958.out 0
             have hfz162_1 := blk_frozen BK958.out 1
             have hfz162_2 := blk_frozen BK958.out 2
             have hfz162_3 := blk_frozen BK958.out 3
             have hfz162_4 := blk_frozen BK958.out 4
             have hfz162_5 := blk_frozen BK958.out 5
             have hfz162_6 := blk_frozen BK958.out 6
             have hfz162_7 := blk_frozen BK958.out 7
             have hfz162_8 := blk_frozen BK958.out 8
             have hfz162_9 := blk_frozen BK958.out 9
             go_wp2
             go_meet
             case rel => exact ⟨_, (decide (t983 > a1_3)), (by first | rfl | (simp; done) | (simp [*]; done)), H', ⟨by have := HJ2.out; have := HJ26.out; first | omega | exact Nat.le_refl _⟩, ⟨by (with_reducible repeat (first | apply Kd.R_alloc | apply Kd.R_drewN | apply Kd.R_drew)); exact Kd.R_mono (Kd.R_far (p := ⟨gb988, 1, none⟩) (Kd.R_far (p := ⟨gb988, 0, none⟩) (Kd.R_types HO_972000.out BK988.out (by decide)) (fun _ hk => hk.2) (.int .i64 t985)) (fun _ hk => hk.2) (.int .i64 t986)) (fun _ hk => hk.1)⟩, ⟨by (with_reducible repeat (first | apply Kd.R_alloc | apply Kd.R_drewN | apply Kd.R_drew)); exact Kd.R_mono (Kd.R_far (p := ⟨gb988, 1, none⟩) (Kd.R_far (p := ⟨gb988, 0, none⟩) (Kd.R_types HO_972001.out BK988.out (by decide)) (fun _ hk => hk.2) (.int .i64 t985)) (fun _ hk => hk.2) (.int .i64 t986)) (fun _ hk => hk.1)⟩, ⟨by (with_reducible repeat (first | apply Kd.S_alloc | apply Kd.S_drewN | apply Kd.S_drew)); exact Kd.S_mono (Kd.S_far (p := ⟨gb988, 1, none⟩) (Kd.S_far (p := ⟨gb988, 0, none⟩) (Kd.S_types HO_972002.out BK988.out (by decide)) (fun _ hk => hk.2) (.int .i64 t985)) (fun _ hk => hk.2) (.int .i64 t986)) (fun _ hk => ⟨hk.1.1, hk.1.2⟩)⟩, ⟨by (with_reducible repeat (first | refine blk_drewN ?_ _ | refine blk_drew ?_ | refine blk_alloc ?_ _)); refine blk_far ?_ NB957_988.out _; (with_reducible repeat (first | refine blk_drewN ?_ _ | refine blk_drew ?_ | refine blk_alloc ?_ _)); refine blk_far ?_ NB957_988.out _; (with_reducible repeat (first | refine blk_drewN ?_ _ | refine blk_drew ?_ | refine blk_alloc ?_ _)); exact BK957.out⟩, ⟨by (with_reducible repeat (first | refine blk_drewN ?_ _ | refine blk_drew ?_ | refine blk_alloc ?_ _)); refine blk_far ?_ NB958_988.out _; (with_reducible repeat (first | refine blk_drewN ?_ _ | refine blk_drew ?_ | refine blk_alloc ?_ _)); refine blk_far ?_ NB958_988.out _; (with_reducible repeat (first | refine blk_drewN ?_ _ | refine blk_drew ?_ | refine blk_alloc ?_ _)); exact BK958.out⟩, ⟨by (with_reducible repeat (first | refine blk_drewN ?_ _ | refine blk_drew ?_ | refine blk_alloc ?_ _)); refine blk_far ?_ NB971_988.out _; (with_reducible repeat (first | refine blk_drewN ?_ _ | refine blk_drew ?_ | refine blk_alloc ?_ _)); refine blk_far ?_ NB971_988.out _; (with_reducible repeat (first | refine blk_drewN ?_ _ | refine blk_drew ?_ | refine blk_alloc ?_ _)); exact BK971.out⟩, ⟨by (with_reducible repeat (first | refine blk_drewN ?_ _ | refine blk_drew ?_ | refine blk_alloc ?_ _)); refine blk_far ?_ NB975_988.out _; (with_reducible repeat (first | refine blk_drewN ?_ _ | refine blk_drew ?_ | refine blk_alloc ?_ _)); refine blk_far ?_ NB975_988.out _; (with_reducible repeat (first | refine blk_drewN ?_ _ | refine blk_drew ?_ | refine blk_alloc ?_ _)); exact BK975.out⟩, ⟨by (with_reducible repeat (first | refine blk_drewN ?_ _ | refine blk_drew ?_ | refine blk_alloc ?_ _)); refine blk_far ?_ NB981_988.out _; (with_reducible repeat (first | refine blk_drewN ?_ _ | refine blk_drew ?_ | refine blk_alloc ?_ _)); refine blk_far ?_ NB981_988.out _; (with_reducible repeat (first | refine blk_drewN ?_ _ | refine blk_drew ?_ | refine blk_alloc ?_ _)); exact BK981.out⟩, ⟨by (with_reducible repeat (first | refine blk_drewN ?_ _ | refine blk_drew ?_ | refine blk_alloc ?_ _)); refine blk_put (cs := #[.int .i64 t985, .int .i64 0]) ?_ 1 _ rfl; (with_reducible repeat (first | refine blk_drewN ?_ _ | refine blk_drew ?_ | refine blk_alloc ?_ _)); refine blk_put (cs := #[.int .i64 0, .int .i64 0]) ?_ 0 _ rfl; (with_reducible repeat (first | refine blk_drewN ?_ _ | refine blk_drew ?_ | refine blk_alloc ?_ _)); exact BK988.out⟩, ⟨bl_ HB.out⟩⟩
         ·
          rw [if_neg c99] at H
          exact absurd ((swashplatelaw01_SpansInside.j2_true H).symm.trans hrT.out) (by decide)
        ·
         rw [if_neg c98] at H
         exact absurd ((swashplatelaw01_SpansInside.j2_true H).symm.trans hrT.out) (by decide)
       case rest =>
        as_aux_lemma =>
        clear HC84
        try clear c1
        try clear c2
        try clear p2
        try clear c3
        try clear c4
        try clear c5
        try clear c6
        try clear c7
        try clear c8
        try clear c9
        try clear c10
        try clear c11
        try clear c12
        try clear c13
        try clear c14
        try clear c15
        try clear c16
        try clear c17
        try clear c18
        try clear c20
        try clear c22
        try clear c24
        try clear c28
        try clear c30
        try clear c32
        try clear c33
        try clear c34
        try clear c41
        try clear c42
        try clear c43
        try clear c52
        try clear c53
        try clear c54
        try clear c55
        try clear c60
        try clear c60b0
        try clear c60b1
        try clear c61
        try clear c61b0
        try clear c61b1
        try clear c62
        try clear c62b0
        try clear c62b1
        try clear c63
        try clear c63b0
        try clear c64
        try clear c65
        try clear c66
        try clear c67
        try clear c69
        try clear c70
        try clear c71
        try clear c73
        try clear c74
        try clear c75
        try clear c76
        try clear c78
        try clear c79
        try clear c80
        try clear c82
        try clear c85
        try clear c86
        try clear c87
        try clear c88
        try clear c92
        try clear c93
        try clear c94
        try clear c95
        try clear c96
        try clear c98
        try clear c98b0
        try clear c98b1
        try clear c99
        try clear c99b0
        try clear c99b1
        try clear c100
        try clear c100b0
        try clear c101
        try clear c102
        try clear c103
        try clear c104
        try clear c105
        try clear c107
        try clear c108
        try clear c109
        try clear c110
        try clear c112
        try clear c113
        try clear c114
        try clear c116
        try clear c116b0
        try clear c117
        try clear c118
        try clear c119
        try clear c120
        try clear c121
        try clear c123
        try clear c124
        try clear c125
        try clear c126
        try clear c128
        try clear c129
        try clear c130
        try clear c132
        try clear c132b0
        try clear c133
        try clear c134
        try clear c135
        try clear c136
        try clear c137
        try clear c139
        try clear c140
        try clear c141
        try clear c142
        try clear c144
        try clear c145
        try clear c146
        try clear c148
        try clear c149
        try clear c150
        try clear c151
        try clear c152
        try clear c154
        try clear c155
        try clear c156
        try clear c157
        try clear c159
        try clear c160
        try clear c161
        try clear c163
        try clear c164
        try clear c165
        try clear c166
        try clear c167
        try clear c169
        try clear c170
        try clear c171
        try clear c172
        try clear hcz106_0
        try clear hcz106_1
        try clear hcz111_0
        try clear hcz111_1
        try clear hcz115_0
        try clear hcz115_1
        try clear hcz115_2
        try clear hcz115_3
        try clear hcz115_4
        try clear hcz115_5
        try clear hcz115_6
        try clear hcz115_7
        try clear hcz115_8
        try clear hcz115_9
        try clear hcz122_0
        try clear hcz122_1
        try clear hcz127_0
        try clear hcz127_1
        try clear hcz131_0
        try clear hcz131_1
        try clear hcz131_2
        try clear hcz131_3
        try clear hcz131_4
        try clear hcz131_5
        try clear hcz131_6
        try clear hcz131_7
        try clear hcz131_8
        try clear hcz131_9
        try clear hcz138_0
        try clear hcz138_1
        try clear hcz13_0
        try clear hcz13_1
        try clear hcz13_2
        try clear hcz143_0
        try clear hcz143_1
        try clear hcz147_0
        try clear hcz147_1
        try clear hcz147_2
        try clear hcz147_3
        try clear hcz147_4
        try clear hcz147_5
        try clear hcz147_6
        try clear hcz147_7
        try clear hcz147_8
        try clear hcz147_9
        try clear hcz153_0
        try clear hcz153_1
        try clear hcz158_0
        try clear hcz158_1
        try clear hcz15_0
        try clear hcz15_1
        try clear hcz15_2
        try clear hcz162_0
        try clear hcz162_1
        try clear hcz162_2
        try clear hcz162_3
        try clear hcz162_4
        try clear hcz162_5
        try clear hcz162_6
        try clear hcz162_7
        try clear hcz162_8
        try clear hcz162_9
        try clear hcz168_0
        try clear hcz168_1
        try clear hcz16_0
        try clear hcz16_1
        try clear hcz16_2
        try clear hcz16_3
        try clear hcz16_4
        try clear hcz16_5
        try clear hcz16_6
        try clear hcz16_7
        try clear hcz16_8
        try clear hcz16_9
        try clear hcz173_0
        try clear hcz173_1
        try clear hcz29_0
        try clear hcz29_1
        try clear hcz29_2
        try clear hcz35_0
        try clear hcz35_1
        try clear hcz35_2
        try clear hcz38_0
        try clear hcz38_1
        try clear hcz38_2
        try clear hcz38_3
        try clear hcz38_4
        try clear hcz38_5
        try clear hcz38_6
        try clear hcz38_7
        try clear hcz38_8
        try clear hcz38_9
        try clear hcz44_0
        try clear hcz44_1
        try clear hcz49_0
        try clear hcz49_1
        try clear hcz49_2
        try clear hcz56_0
        try clear hcz56_1
        try clear hcz57_0
        try clear hcz57_1
        try clear hcz57_2
        try clear hcz58_0
        try clear hcz58_1
        try clear hcz58_2
        try clear hcz58_3
        try clear hcz58_4
        try clear hcz58_5
        try clear hcz58_6
        try clear hcz58_7
        try clear hcz58_8
        try clear hcz58_9
        try clear hcz68_0
        try clear hcz68_1
        try clear hcz72_0
        try clear hcz72_1
        try clear hcz77_0
        try clear hcz77_1
        try clear hcz81_0
        try clear hcz81_1
        try clear hcz89_0
        try clear hcz89_1
        try clear hcz89_2
        try clear hcz97_0
        try clear hcz97_1
        try clear hcz9_0
        try clear hcz9_1
        try clear hcz9_2
        try clear hfz106_0
        try clear hfz106_1
        try clear hfz111_0
        try clear hfz111_1
        try clear hfz115_0
        try clear hfz115_1
        try clear hfz115_2
        try clear hfz115_3
        try clear hfz115_4
        try clear hfz115_5
        try clear hfz115_6
        try clear hfz115_7
        try clear hfz115_8
        try clear hfz115_9
        try clear hfz122_0
        try clear hfz122_1
        try clear hfz127_0
        try clear hfz127_1
        try clear hfz131_0
        try clear hfz131_1
        try clear hfz131_2
        try clear hfz131_3
        try clear hfz131_4
        try clear hfz131_5
        try clear hfz131_6
        try clear hfz131_7
        try clear hfz131_8
        try clear hfz131_9
        try clear hfz138_0
        try clear hfz138_1
        try clear hfz13_0
        try clear hfz13_1
        try clear hfz13_2
        try clear hfz143_0
        try clear hfz143_1
        try clear hfz147_0
        try clear hfz147_1
        try clear hfz147_2
        try clear hfz147_3
        try clear hfz147_4
        try clear hfz147_5
        try clear hfz147_6
        try clear hfz147_7
        try clear hfz147_8
        try clear hfz147_9
        try clear hfz153_0
        try clear hfz153_1
        try clear hfz158_0
        try clear hfz158_1
        try clear hfz15_0
        try clear hfz15_1
        try clear hfz15_2
        try clear hfz162_0
        try clear hfz162_1
        try clear hfz162_2
        try clear hfz162_3
        try clear hfz162_4
        try clear hfz162_5
        try clear hfz162_6
        try clear hfz162_7
        try clear hfz162_8
        try clear hfz162_9
        try clear hfz168_0
        try clear hfz168_1
        try clear hfz16_0
        try clear hfz16_1
        try clear hfz16_2
        try clear hfz16_3
        try clear hfz16_4
        try clear hfz16_5
        try clear hfz16_6
        try clear hfz16_7
        try clear hfz16_8
        try clear hfz16_9
        try clear hfz173_0
        try clear hfz173_1
        try clear hfz29_0
        try clear hfz29_1
        try clear hfz29_2
        try clear hfz35_0
        try clear hfz35_1
        try clear hfz35_2
        try clear hfz38_0
        try clear hfz38_1
        try clear hfz38_2
        try clear hfz38_3
        try clear hfz38_4
        try clear hfz38_5
        try clear hfz38_6
        try clear hfz38_7
        try clear hfz38_8
        try clear hfz38_9
        try clear hfz44_0
        try clear hfz44_1
        try clear hfz49_0
        try clear hfz49_1
        try clear hfz49_2
        try clear hfz56_0
        try clear hfz56_1
        try clear hfz57_0
        try clear hfz57_1
        try clear hfz57_2
        try clear hfz58_0
        try clear hfz58_1
        try clear hfz58_2
        try clear hfz58_3
        try clear hfz58_4
        try clear hfz58_5
        try clear hfz58_6
        try clear hfz58_7
        try clear hfz58_8
        try clear hfz58_9
        try clear hfz68_0
        try clear hfz68_1
        try clear hfz72_0
        try clear hfz72_1
        try clear hfz77_0
        try clear hfz77_1
        try clear hfz81_0
        try clear hfz81_1
        try clear hfz89_0
        try clear hfz89_1
        try clear hfz89_2
        try clear hfz97_0
        try clear hfz97_1
        try clear hfz9_0
        try clear hfz9_1
        try clear hfz9_2
        try clear p2
        obtain ⟨kq, x154_83, rfl, HA, HJ83, HO_972000, HO_972001, HO_972002, BK957, BK958, BK971, BK975, BK981, BK988, HB⟩ := hcut
        cases kq with
        | zero => exact absurd HA.out (by simp [swashplatelaw01_SpansInside.j2])
        | succ kj83 =>
         have H := HA.out
         clear HA
         simp only [swashplatelaw01_SpansInside.j2] at H
         by_cases c174 : x154_83 = true
         ·
          subst c174
          have H1 : (some false) = some r := by rw [if_pos rfl] at H; exact H
          clear H
          have H := H1
          clear H1
          exact absurd ((Option.some.inj H).trans hrT.out) (by decide)
         ·
          replace c174 := Bool.eq_false_iff.mpr c174
          subst c174
          have H1 : ((swashplatelaw01_within.f a1_6 a1_0 a1_1).bind fun t989 => ((swashplatelaw01_within.f a1_7 a1_0 a1_1).bind fun t990 => ((swashplatelaw01_within.f a1_8 a1_2 a1_3).bind fun t991 => ((swashplatelaw01_within.f a1_9 a1_2 a1_3).bind fun t992 => ((spans_Bound.f t962 t965 t968 (mn t989 t990) (mx t989 t990) (mn t991 t992) (mx t991 t992)).bind fun bt993 => (if bt993.2.2 = 0 then (if bt993.1 ≥ t972 then (if bt993.2.1 ≤ t973 then ((swashplatelaw01_works.f kj83).bind fun t997 => (some t997)) else (some false)) else (some false)) else (some false))))))) = some r := by rw [if_neg (show ¬ (false = true) by decide)] at H; exact H
          clear H
          have H := H1
          clear H1
          replace H := Option.bind_eq_some_iff.mp H
          obtain ⟨t989, A1750, H⟩ := H
          replace H : ((swashplatelaw01_within.f a1_7 a1_0 a1_1).bind fun t990 => ((swashplatelaw01_within.f a1_8 a1_2 a1_3).bind fun t991 => ((swashplatelaw01_within.f a1_9 a1_2 a1_3).bind fun t992 => ((spans_Bound.f t962 t965 t968 (mn t989 t990) (mx t989 t990) (mn t991 t992) (mx t991 t992)).bind fun bt993 => (if bt993.2.2 = 0 then (if bt993.1 ≥ t972 then (if bt993.2.1 ≤ t973 then ((swashplatelaw01_works.f kj83).bind fun t997 => (some t997)) else (some false)) else (some false)) else (some false)))))) = some r := H
          have A175 := Aside0.mk A1750
          clear A1750
          replace H := Option.bind_eq_some_iff.mp H
          obtain ⟨t990, A1760, H⟩ := H
          replace H : ((swashplatelaw01_within.f a1_8 a1_2 a1_3).bind fun t991 => ((swashplatelaw01_within.f a1_9 a1_2 a1_3).bind fun t992 => ((spans_Bound.f t962 t965 t968 (mn t989 t990) (mx t989 t990) (mn t991 t992) (mx t991 t992)).bind fun bt993 => (if bt993.2.2 = 0 then (if bt993.1 ≥ t972 then (if bt993.2.1 ≤ t973 then ((swashplatelaw01_works.f kj83).bind fun t997 => (some t997)) else (some false)) else (some false)) else (some false))))) = some r := H
          have A176 := Aside0.mk A1760
          clear A1760
          replace H := Option.bind_eq_some_iff.mp H
          obtain ⟨t991, A1770, H⟩ := H
          replace H : ((swashplatelaw01_within.f a1_9 a1_2 a1_3).bind fun t992 => ((spans_Bound.f t962 t965 t968 (mn t989 t990) (mx t989 t990) (mn t991 t992) (mx t991 t992)).bind fun bt993 => (if bt993.2.2 = 0 then (if bt993.1 ≥ t972 then (if bt993.2.1 ≤ t973 then ((swashplatelaw01_works.f kj83).bind fun t997 => (some t997)) else (some false)) else (some false)) else (some false)))) = some r := H
          have A177 := Aside0.mk A1770
          clear A1770
          replace H := Option.bind_eq_some_iff.mp H
          obtain ⟨t992, A1780, H⟩ := H
          replace H : ((spans_Bound.f t962 t965 t968 (mn t989 t990) (mx t989 t990) (mn t991 t992) (mx t991 t992)).bind fun bt993 => (if bt993.2.2 = 0 then (if bt993.1 ≥ t972 then (if bt993.2.1 ≤ t973 then ((swashplatelaw01_works.f kj83).bind fun t997 => (some t997)) else (some false)) else (some false)) else (some false))) = some r := H
          have A178 := Aside0.mk A1780
          clear A1780
          obtain ⟨ji179, hji179⟩ : ∃ j_ : Int, (mn t989 t990) = j_ := ⟨_, rfl⟩
          replace H : ((spans_Bound.f t962 t965 t968 (ji179) (mx t989 t990) (mn t991 t992) (mx t991 t992)).bind fun bt993 => (if bt993.2.2 = 0 then (if bt993.1 ≥ t972 then (if bt993.2.1 ≤ t973 then ((swashplatelaw01_works.f kj83).bind fun t997 => (some t997)) else (some false)) else (some false)) else (some false))) = some r := by first | (rw [hji179] at H; exact H) | (simp only [hji179] at H ⊢; exact H)
          (try rw [hji179] at A175)
          (try rw [hji179] at A176)
          (try rw [hji179] at A177)
          (try rw [hji179] at A178)
          have hji179_ : (if t990 < t989 then t990 else t989) = ji179 := hji179
          obtain ⟨ji180, hji180⟩ : ∃ j_ : Int, (mx t989 t990) = j_ := ⟨_, rfl⟩
          replace H : ((spans_Bound.f t962 t965 t968 (ji179) (ji180) (mn t991 t992) (mx t991 t992)).bind fun bt993 => (if bt993.2.2 = 0 then (if bt993.1 ≥ t972 then (if bt993.2.1 ≤ t973 then ((swashplatelaw01_works.f kj83).bind fun t997 => (some t997)) else (some false)) else (some false)) else (some false))) = some r := by first | (rw [hji180] at H; exact H) | (simp only [hji180] at H ⊢; exact H)
          (try rw [hji180] at A175)
          (try rw [hji180] at A176)
          (try rw [hji180] at A177)
          (try rw [hji180] at A178)
          have hji180_ : (if t989 < t990 then t990 else t989) = ji180 := hji180
          obtain ⟨ji181, hji181⟩ : ∃ j_ : Int, (mn t991 t992) = j_ := ⟨_, rfl⟩
          replace H : ((spans_Bound.f t962 t965 t968 (ji179) (ji180) (ji181) (mx t991 t992)).bind fun bt993 => (if bt993.2.2 = 0 then (if bt993.1 ≥ t972 then (if bt993.2.1 ≤ t973 then ((swashplatelaw01_works.f kj83).bind fun t997 => (some t997)) else (some false)) else (some false)) else (some false))) = some r := by first | (rw [hji181] at H; exact H) | (simp only [hji181] at H ⊢; exact H)
          (try rw [hji181] at A175)
          (try rw [hji181] at A176)
          (try rw [hji181] at A177)
          (try rw [hji181] at A178)
          have hji181_ : (if t992 < t991 then t992 else t991) = ji181 := hji181
          obtain ⟨ji182, hji182⟩ : ∃ j_ : Int, (mx t991 t992) = j_ := ⟨_, rfl⟩
          replace H : ((spans_Bound.f t962 t965 t968 (ji179) (ji180) (ji181) (ji182)).bind fun bt993 => (if bt993.2.2 = 0 then (if bt993.1 ≥ t972 then (if bt993.2.1 ≤ t973 then ((swashplatelaw01_works.f kj83).bind fun t997 => (some t997)) else (some false)) else (some false)) else (some false))) = some r := by first | (rw [hji182] at H; exact H) | (simp only [hji182] at H ⊢; exact H)
          (try rw [hji182] at A175)
          (try rw [hji182] at A176)
          (try rw [hji182] at A177)
          (try rw [hji182] at A178)
          have hji182_ : (if t991 < t992 then t992 else t991) = ji182 := hji182
          replace H := Option.bind_eq_some_iff.mp H
          obtain ⟨⟨t993, t994, t995⟩, A1830, H⟩ := H
          replace H : (if t995 = 0 then (if t993 ≥ t972 then (if t994 ≤ t973 then ((swashplatelaw01_works.f kj83).bind fun t997 => (some t997)) else (some false)) else (some false)) else (some false)) = some r := H
          have A183 := Aside0.mk A1830
          clear A1830
          by_cases c184 : t995 = 0
          ·
           rw [if_pos c184] at H
           have c184b0 : (t995 == 0) = true := beq_iff_eq.mpr c184
           have c184b1 : (t995 != 0) = false := bne_eq_false_iff_eq.mpr c184
           clear c184
           by_cases c185 : t993 ≥ t972
           ·
            rw [if_pos c185] at H
            have c185b0 : decide (t972 ≤ t993) = true := decide_eq_true c185
            clear c185
            by_cases c186 : t994 ≤ t973
            ·
             rw [if_pos c186] at H
             have c186b0 : decide (t994 ≤ t973) = true := decide_eq_true c186
             clear c186
             replace H := Option.bind_eq_some_iff.mp H
             obtain ⟨t997, A1870, H⟩ := H
             replace H : (some t997) = some r := H
             have A187 := Aside0.mk A1870
             clear A1870
             obtain rfl := Option.some.inj H
             try go_wp2
             have n0_ := Aside0.mk (Kd.R_drew HO_972000.out)
             have n1_ := Aside0.mk (Kd.R_drew HO_972001.out)
             have n2_ := Aside0.mk (Kd.S_drew HO_972002.out)
             have n3_ := Aside0.mk (blk_drew BK957.out)
             have n4_ := Aside0.mk (blk_drew BK958.out)
             have n5_ := Aside0.mk (blk_drew BK971.out)
             have n6_ := Aside0.mk (blk_drew BK975.out)
             have n7_ := Aside0.mk (blk_drew BK981.out)
             have n8_ := Aside0.mk (blk_drew BK988.out)
             have n9_ := Aside0.mk (below_drew1 HB.out)
             clear HO_972000 HO_972001 HO_972002 BK957 BK958 BK971 BK975 BK981 BK988 HB
             have HO_972000 := n0_
             have HO_972001 := n1_
             have HO_972002 := n2_
             have BK957 := n3_
             have BK958 := n4_
             have BK971 := n5_
             have BK975 := n6_
             have BK981 := n7_
             have BK988 := n8_
             have HB := n9_
             clear n0_ n1_ n2_ n3_ n4_ n5_ n6_ n7_ n8_ n9_
             refine start_ (n := 16) (S := fun w' => w'.cell? ⟨gb958, 0, none⟩ = some (.int .i64 a1_0) ∧ w'.cell? ⟨gb958, 1, none⟩ = some (.int .i64 a1_1) ∧ w'.cell? ⟨gb958, 2, none⟩ = some (.int .i64 a1_2) ∧ w'.cell? ⟨gb958, 3, none⟩ = some (.int .i64 a1_3) ∧ w'.cell? ⟨gb958, 4, none⟩ = some (.int .i64 a1_4) ∧ w'.cell? ⟨gb958, 5, none⟩ = some (.int .i64 a1_5) ∧ w'.cell? ⟨gb958, 6, none⟩ = some (.int .i64 a1_6) ∧ w'.cell? ⟨gb958, 7, none⟩ = some (.int .i64 a1_7) ∧ w'.cell? ⟨gb958, 8, none⟩ = some (.int .i64 a1_8) ∧ w'.cell? ⟨gb958, 9, none⟩ = some (.int .i64 a1_9)) (ds := []) #[false, false, false, false, false, false, false, false, false, false, false, false, false, false, false, false] (by kernel_rfl) rfl rfl ⟨(blk_cell BK958.out 0).trans rfl, (blk_cell BK958.out 1).trans rfl, (blk_cell BK958.out 2).trans rfl, (blk_cell BK958.out 3).trans rfl, (blk_cell BK958.out 4).trans rfl, (blk_cell BK958.out 5).trans rfl, (blk_cell BK958.out 6).trans rfl, (blk_cell BK958.out 7).trans rfl, (blk_cell BK958.out 8).trans rfl, (blk_cell BK958.out 9).trans rfl⟩ (fun hHeld => ?_); refine with_tabW swashplatelaw01_SpansInside.tab13 swashplatelaw01_SpansInside.bits13 (fun HT_ HW_ => ?_)
             generalize wc.drew = w188 at HO_972000 HO_972001 HO_972002 BK957 BK958 BK971 BK975 BK981 BK988 HB hHeld ⊢
             refine pure_ (i := 0) (N := some 155) (v := ?_) (a' := ?_) #[true, false, false, false, false, false, false, false, false, false, false, false, false, false, false, false] rfl rfl (any_of HT_.out (by kernel_rfl)) (fun _ _ _ h => h) (Or.inl ⟨by rfl, ?_⟩) ?_ ?_
             rotate_left
             ·
              intro w'
              go_simp
              with_reducible rfl
             rotate_left
             ·
              simp only [Act.put, List.setIfInBounds_toArray, List.set_cons_zero, List.set_cons_succ, i64_w, i32_w]
              rfl
             refine pure_ (i := 1) (N := some 156) (v := ?_) (a' := ?_) #[true, true, false, false, false, false, false, false, false, false, false, false, false, false, false, false] rfl rfl (any_of HT_.out (by kernel_rfl)) (fun _ _ _ h => h) (Or.inl ⟨by rfl, ?_⟩) ?_ ?_
             rotate_left
             ·
              intro w'
              go_simp
              with_reducible rfl
             rotate_left
             ·
              simp only [Act.put, List.setIfInBounds_toArray, List.set_cons_zero, List.set_cons_succ, i64_w, i32_w]
              rfl
             refine pure_ (i := 3) (N := some 158) (v := ?_) (a' := ?_) #[true, true, false, true, false, false, false, false, false, false, false, false, false, false, false, false] rfl rfl (any_of HT_.out (by kernel_rfl)) (fun _ _ _ h => h) (Or.inl ⟨by rfl, ?_⟩) ?_ ?_
             rotate_left
             ·
              intro w'
              go_simp
              with_reducible rfl
             rotate_left
             ·
              simp only [Act.put, List.setIfInBounds_toArray, List.set_cons_zero, List.set_cons_succ, i64_w, i32_w]
              rfl
             refine pure_ (i := 4) (N := some 159) (v := ?_) (a' := ?_) #[true, true, false, true, true, false, false, false, false, false, false, false, false, false, false, false] rfl rfl (any_of HT_.out (by kernel_rfl)) (fun _ _ _ h => h) (Or.inl ⟨by rfl, ?_⟩) ?_ ?_
             rotate_left
             ·
              intro w'
              go_simp
              with_reducible rfl
             rotate_left
             ·
              simp only [Act.put, List.setIfInBounds_toArray, List.set_cons_zero, List.set_cons_succ, i64_w, i32_w]
              rfl
             refine pure_ (i := 7) (N := some 162) (v := ?_) (a' := ?_) #[true, true, false, true, true, false, false, true, false, false, false, false, false, false, false, false] rfl rfl (any_of HT_.out (by kernel_rfl)) (fun _ _ _ h => h) (Or.inl ⟨by rfl, ?_⟩) ?_ ?_
             rotate_left
             ·
              intro w'
              go_simp
              with_reducible rfl
             rotate_left
             ·
              simp only [Act.put, List.setIfInBounds_toArray, List.set_cons_zero, List.set_cons_succ, i64_w, i32_w]
              rfl
             refine pure_ (i := 8) (N := some 163) (v := ?_) (a' := ?_) #[true, true, false, true, true, false, false, true, true, false, false, false, false, false, false, false] rfl rfl (any_of HT_.out (by kernel_rfl)) (fun _ _ _ h => h) (Or.inl ⟨by rfl, ?_⟩) ?_ ?_
             rotate_left
             ·
              intro w'
              go_simp
              with_reducible rfl
             rotate_left
             ·
              simp only [Act.put, List.setIfInBounds_toArray, List.set_cons_zero, List.set_cons_succ, i64_w, i32_w]
              rfl
             refine pure_ (i := 10) (N := some 165) (v := ?_) (a' := ?_) #[true, true, false, true, true, false, false, true, true, false, true, false, false, false, false, false] rfl rfl (any_of HT_.out (by kernel_rfl)) (fun _ _ _ h => h) (Or.inl ⟨by rfl, ?_⟩) ?_ ?_
             rotate_left
             ·
              intro w'
              go_simp
              with_reducible rfl
             rotate_left
             ·
              simp only [Act.put, List.setIfInBounds_toArray, List.set_cons_zero, List.set_cons_succ, i64_w, i32_w]
              rfl
             refine pure_ (i := 11) (N := some 166) (v := ?_) (a' := ?_) #[true, true, false, true, true, false, false, true, true, false, true, true, false, false, false, false] rfl rfl (any_of HT_.out (by kernel_rfl)) (fun _ _ _ h => h) (Or.inl ⟨by rfl, ?_⟩) ?_ ?_
             rotate_left
             ·
              intro w'
              go_simp
              with_reducible rfl
             rotate_left
             ·
              simp only [Act.put, List.setIfInBounds_toArray, List.set_cons_zero, List.set_cons_succ, i64_w, i32_w]
              rfl
             refine take_ (i := 2) (N := some 157) (v := ?_) (a' := ?_) #[true, true, true, true, true, false, false, true, true, false, true, true, false, false, false, false] rfl rfl (take_ofW HT_.out HW_.out (by kernel_rfl)) (fun _ _ _ h => h) (Or.inl ⟨by rfl, ?_⟩) hHeld ?_ ?_
             rotate_left
             ·
              rintro w' ⟨s0, s1, s2, s3, s4, s5, s6, s7, s8, s9⟩
              go_simp
              with_reducible rfl
             rotate_left
             ·
              simp only [Act.put, List.setIfInBounds_toArray, List.set_cons_zero, List.set_cons_succ, i64_w, i32_w]
              rfl
             refine take_ (i := 5) (N := some 160) (v := ?_) (a' := ?_) #[true, true, true, true, true, true, false, true, true, false, true, true, false, false, false, false] rfl rfl (take_ofW HT_.out HW_.out (by kernel_rfl)) (fun _ _ _ h => h) (Or.inl ⟨by rfl, ?_⟩) hHeld ?_ ?_
             rotate_left
             ·
              rintro w' ⟨s0, s1, s2, s3, s4, s5, s6, s7, s8, s9⟩
              go_simp
              with_reducible rfl
             rotate_left
             ·
              simp only [Act.put, List.setIfInBounds_toArray, List.set_cons_zero, List.set_cons_succ, i64_w, i32_w]
              rfl
             refine take_ (i := 9) (N := some 164) (v := ?_) (a' := ?_) #[true, true, true, true, true, true, false, true, true, true, true, true, false, false, false, false] rfl rfl (take_ofW HT_.out HW_.out (by kernel_rfl)) (fun _ _ _ h => h) (Or.inl ⟨by rfl, ?_⟩) hHeld ?_ ?_
             rotate_left
             ·
              rintro w' ⟨s0, s1, s2, s3, s4, s5, s6, s7, s8, s9⟩
              go_simp
              with_reducible rfl
             rotate_left
             ·
              simp only [Act.put, List.setIfInBounds_toArray, List.set_cons_zero, List.set_cons_succ, i64_w, i32_w]
              rfl
             refine take_ (i := 12) (N := some 167) (v := ?_) (a' := ?_) #[true, true, true, true, true, true, false, true, true, true, true, true, true, false, false, false] rfl rfl (take_ofW HT_.out HW_.out (by kernel_rfl)) (fun _ _ _ h => h) (Or.inl ⟨by rfl, ?_⟩) hHeld ?_ ?_
             rotate_left
             ·
              rintro w' ⟨s0, s1, s2, s3, s4, s5, s6, s7, s8, s9⟩
              go_simp
              with_reducible rfl
             rotate_left
             ·
              simp only [Act.put, List.setIfInBounds_toArray, List.set_cons_zero, List.set_cons_succ, i64_w, i32_w]
              rfl
             refine one_ (i := 6) (N := some 161) #[true, true, true, true, true, true, true, true, true, true, true, true, true, false, false, false] rfl rfl (one_of HT_.out (by kernel_rfl)) (by decide) (fun K hK => ?_)
             refine goes_ Try.func53 (by kernel_rfl) rfl #[.int .i64 a1_6, .agg #[.int .i64 a1_0, .int .i64 a1_1]] (by rfl) rfl rfl (by (try simp only [List.map_toArray, List.map_cons, List.map_nil]); first | done | rfl | (simp only [List.length_drop, List.length_take]; rfl)) ?_
             with_reducible refine (swashplatelaw01_within.calls a1_6 a1_0 a1_1 t989 _ A175.out).mono ?_
             rintro e w189 ⟨rfl, hb⟩
             refine ⟨_, rfl, ?_⟩
             have n0_ := Aside0.mk (Kd.R_below (by (with_reducible repeat (first | apply Kd.R_alloc | apply Kd.R_drewN | apply Kd.R_drew)); exact HO_972000.out) hb)
             have n1_ := Aside0.mk (Kd.R_below (by (with_reducible repeat (first | apply Kd.R_alloc | apply Kd.R_drewN | apply Kd.R_drew)); exact HO_972001.out) hb)
             have n2_ := Aside0.mk (Kd.S_below (by (with_reducible repeat (first | apply Kd.S_alloc | apply Kd.S_drewN | apply Kd.S_drew)); exact HO_972002.out) hb)
             have n3_ := Aside0.mk (blk_below (bk_ BK957.out) hb)
             have n4_ := Aside0.mk (blk_below (bk_ BK958.out) hb)
             have n5_ := Aside0.mk (blk_below (bk_ BK971.out) hb)
             have n6_ := Aside0.mk (blk_below (bk_ BK975.out) hb)
             have n7_ := Aside0.mk (blk_below (bk_ BK981.out) hb)
             have n8_ := Aside0.mk (blk_below (bk_ BK988.out) hb)
             have n9_ := Aside0.mk (below_step (bl_ HB.out) hb)
             clear HO_972000 HO_972001 HO_972002 BK957 BK958 BK971 BK975 BK981 BK988 HB
             have HO_972000 := n0_
             have HO_972001 := n1_
             have HO_972002 := n2_
             have BK957 := n3_
             have BK958 := n4_
             have BK971 := n5_
             have BK975 := n6_
             have BK981 := n7_
             have BK988 := n8_
             have HB := n9_
             clear n0_ n1_ n2_ n3_ n4_ n5_ n6_ n7_ n8_ n9_
             (try clear hb)
             (try clear hb2)
             (try clear hk)
             (try clear hi)
             refine hK.out _ _ ⟨(blk_cell BK958.out 0).trans rfl, (blk_cell BK958.out 1).trans rfl, (blk_cell BK958.out 2).trans rfl, (blk_cell BK958.out 3).trans rfl, (blk_cell BK958.out 4).trans rfl, (blk_cell BK958.out 5).trans rfl, (blk_cell BK958.out 6).trans rfl, (blk_cell BK958.out 7).trans rfl, (blk_cell BK958.out 8).trans rfl, (blk_cell BK958.out 9).trans rfl⟩ (fun hHeld => ?_)
             clear hK K
             refine norm_ (a' := ?_) ?_ ?_
             rotate_left
             ·
              show Act.put _ (some 161) _ = _
              simp only [Act.put, List.setIfInBounds_toArray, List.set_cons_zero, List.set_cons_succ, i64_w, i32_w]
              rfl
             refine one_ (i := 13) (N := some 168) #[true, true, true, true, true, true, true, true, true, true, true, true, true, true, false, false] rfl rfl (one_of HT_.out (by kernel_rfl)) (by decide) (fun K hK => ?_)
             refine goes_ Try.func53 (by kernel_rfl) rfl #[.int .i64 a1_7, .agg #[.int .i64 a1_0, .int .i64 a1_1]] (by rfl) rfl rfl (by (try simp only [List.map_toArray, List.map_cons, List.map_nil]); first | done | rfl | (simp only [List.length_drop, List.length_take]; rfl)) ?_
             with_reducible refine (swashplatelaw01_within.calls a1_7 a1_0 a1_1 t990 _ A176.out).mono ?_
             rintro e w190 ⟨rfl, hb⟩
             refine ⟨_, rfl, ?_⟩
             have n0_ := Aside0.mk (Kd.R_below (by (with_reducible repeat (first | apply Kd.R_alloc | apply Kd.R_drewN | apply Kd.R_drew)); exact HO_972000.out) hb)
             have n1_ := Aside0.mk (Kd.R_below (by (with_reducible repeat (first | apply Kd.R_alloc | apply Kd.R_drewN | apply Kd.R_drew)); exact HO_972001.out) hb)
             have n2_ := Aside0.mk (Kd.S_below (by (with_reducible repeat (first | apply Kd.S_alloc | apply Kd.S_drewN | apply Kd.S_drew)); exact HO_972002.out) hb)
             have n3_ := Aside0.mk (blk_below (bk_ BK957.out) hb)
             have n4_ := Aside0.mk (blk_below (bk_ BK958.out) hb)
             have n5_ := Aside0.mk (blk_below (bk_ BK971.out) hb)
             have n6_ := Aside0.mk (blk_below (bk_ BK975.out) hb)
             have n7_ := Aside0.mk (blk_below (bk_ BK981.out) hb)
             have n8_ := Aside0.mk (blk_below (bk_ BK988.out) hb)
             have n9_ := Aside0.mk (below_step (bl_ HB.out) hb)
             clear HO_972000 HO_972001 HO_972002 BK957 BK958 BK971 BK975 BK981 BK988 HB
             have HO_972000 := n0_
             have HO_972001 := n1_
             have HO_972002 := n2_
             have BK957 := n3_
             have BK958 := n4_
             have BK971 := n5_
             have BK975 := n6_
             have BK981 := n7_
             have BK988 := n8_
             have HB := n9_
             clear n0_ n1_ n2_ n3_ n4_ n5_ n6_ n7_ n8_ n9_
             (try clear hb)
             (try clear hb2)
             (try clear hk)
             (try clear hi)
             refine hK.out _ _ ⟨(blk_cell BK958.out 0).trans rfl, (blk_cell BK958.out 1).trans rfl, (blk_cell BK958.out 2).trans rfl, (blk_cell BK958.out 3).trans rfl, (blk_cell BK958.out 4).trans rfl, (blk_cell BK958.out 5).trans rfl, (blk_cell BK958.out 6).trans rfl, (blk_cell BK958.out 7).trans rfl, (blk_cell BK958.out 8).trans rfl, (blk_cell BK958.out 9).trans rfl⟩ (fun hHeld => ?_)
             clear hK K
             refine norm_ (a' := ?_) ?_ ?_
             rotate_left
             ·
              show Act.put _ (some 168) _ = _
              simp only [Act.put, List.setIfInBounds_toArray, List.set_cons_zero, List.set_cons_succ, i64_w, i32_w]
              rfl
             refine pure_ (i := 14) (N := some 17) (v := ?_) (a' := ?_) #[true, true, true, true, true, true, true, true, true, true, true, true, true, true, true, false] rfl rfl (any_of HT_.out (by kernel_rfl)) (fun _ _ _ h => h) (Or.inl ⟨by rfl, ?_⟩) ?_ ?_
             rotate_left
             ·
              intro w'
              go_simp
              with_reducible rfl
             rotate_left
             ·
              simp only [Act.put, List.setIfInBounds_toArray, List.set_cons_zero, List.set_cons_succ, i64_w, i32_w]
              rfl
             refine pure_ (i := 15) (N := some 18) (v := ?_) (a' := ?_) #[true, true, true, true, true, true, true, true, true, true, true, true, true, true, true, true] rfl rfl (any_of HT_.out (by kernel_rfl)) (fun _ _ _ h => h) (Or.inl ⟨by rfl, ?_⟩) ?_ ?_
             rotate_left
             ·
              intro w'
              go_simp
              with_reducible rfl
             rotate_left
             ·
              simp only [Act.put, List.setIfInBounds_toArray, List.set_cons_zero, List.set_cons_succ, i64_w, i32_w]
              rfl
             refine done_ (done_of HT_.out (by kernel_rfl)) ?_
             try go_wp2
             have n0_ := Aside0.mk (Kd.R_drew HO_972000.out)
             have n1_ := Aside0.mk (Kd.R_drew HO_972001.out)
             have n2_ := Aside0.mk (Kd.S_drew HO_972002.out)
             have n3_ := Aside0.mk (blk_drew BK957.out)
             have n4_ := Aside0.mk (blk_drew BK958.out)
             have n5_ := Aside0.mk (blk_drew BK971.out)
             have n6_ := Aside0.mk (blk_drew BK975.out)
             have n7_ := Aside0.mk (blk_drew BK981.out)
             have n8_ := Aside0.mk (blk_drew BK988.out)
             have n9_ := Aside0.mk (below_drew1 HB.out)
             clear HO_972000 HO_972001 HO_972002 BK957 BK958 BK971 BK975 BK981 BK988 HB
             have HO_972000 := n0_
             have HO_972001 := n1_
             have HO_972002 := n2_
             have BK957 := n3_
             have BK958 := n4_
             have BK971 := n5_
             have BK975 := n6_
             have BK981 := n7_
             have BK988 := n8_
             have HB := n9_
             clear n0_ n1_ n2_ n3_ n4_ n5_ n6_ n7_ n8_ n9_
             refine start_ (n := 16) (S := fun w' => w'.cell? ⟨gb958, 0, none⟩ = some (.int .i64 a1_0) ∧ w'.cell? ⟨gb958, 1, none⟩ = some (.int .i64 a1_1) ∧ w'.cell? ⟨gb958, 2, none⟩ = some (.int .i64 a1_2) ∧ w'.cell? ⟨gb958, 3, none⟩ = some (.int .i64 a1_3) ∧ w'.cell? ⟨gb958, 4, none⟩ = some (.int .i64 a1_4) ∧ w'.cell? ⟨gb958, 5, none⟩ = some (.int .i64 a1_5) ∧ w'.cell? ⟨gb958, 6, none⟩ = some (.int .i64 a1_6) ∧ w'.cell? ⟨gb958, 7, none⟩ = some (.int .i64 a1_7) ∧ w'.cell? ⟨gb958, 8, none⟩ = some (.int .i64 a1_8) ∧ w'.cell? ⟨gb958, 9, none⟩ = some (.int .i64 a1_9)) (ds := []) #[false, false, false, false, false, false, false, false, false, false, false, false, false, false, false, false] (by kernel_rfl) rfl rfl ⟨(blk_cell BK958.out 0).trans rfl, (blk_cell BK958.out 1).trans rfl, (blk_cell BK958.out 2).trans rfl, (blk_cell BK958.out 3).trans rfl, (blk_cell BK958.out 4).trans rfl, (blk_cell BK958.out 5).trans rfl, (blk_cell BK958.out 6).trans rfl, (blk_cell BK958.out 7).trans rfl, (blk_cell BK958.out 8).trans rfl, (blk_cell BK958.out 9).trans rfl⟩ (fun hHeld => ?_); refine with_tabW swashplatelaw01_SpansInside.tab14 swashplatelaw01_SpansInside.bits14 (fun HT_ HW_ => ?_)
             generalize w190.drew = w191 at HO_972000 HO_972001 HO_972002 BK957 BK958 BK971 BK975 BK981 BK988 HB hHeld ⊢
             refine pure_ (i := 0) (N := some 169) (v := ?_) (a' := ?_) #[true, false, false, false, false, false, false, false, false, false, false, false, false, false, false, false] rfl rfl (any_of HT_.out (by kernel_rfl)) (fun _ _ _ h => h) (Or.inl ⟨by rfl, ?_⟩) ?_ ?_
             rotate_left
             ·
              intro w'
              go_simp
              with_reducible rfl
             rotate_left
             ·
              simp only [Act.put, List.setIfInBounds_toArray, List.set_cons_zero, List.set_cons_succ, i64_w, i32_w]
              rfl
             refine pure_ (i := 1) (N := some 170) (v := ?_) (a' := ?_) #[true, true, false, false, false, false, false, false, false, false, false, false, false, false, false, false] rfl rfl (any_of HT_.out (by kernel_rfl)) (fun _ _ _ h => h) (Or.inl ⟨by rfl, ?_⟩) ?_ ?_
             rotate_left
             ·
              intro w'
              go_simp
              with_reducible rfl
             rotate_left
             ·
              simp only [Act.put, List.setIfInBounds_toArray, List.set_cons_zero, List.set_cons_succ, i64_w, i32_w]
              rfl
             refine pure_ (i := 3) (N := some 172) (v := ?_) (a' := ?_) #[true, true, false, true, false, false, false, false, false, false, false, false, false, false, false, false] rfl rfl (any_of HT_.out (by kernel_rfl)) (fun _ _ _ h => h) (Or.inl ⟨by rfl, ?_⟩) ?_ ?_
             rotate_left
             ·
              intro w'
              go_simp
              with_reducible rfl
             rotate_left
             ·
              simp only [Act.put, List.setIfInBounds_toArray, List.set_cons_zero, List.set_cons_succ, i64_w, i32_w]
              rfl
             refine pure_ (i := 4) (N := some 173) (v := ?_) (a' := ?_) #[true, true, false, true, true, false, false, false, false, false, false, false, false, false, false, false] rfl rfl (any_of HT_.out (by kernel_rfl)) (fun _ _ _ h => h) (Or.inl ⟨by rfl, ?_⟩) ?_ ?_
             rotate_left
             ·
              intro w'
              go_simp
              with_reducible rfl
             rotate_left
             ·
              simp only [Act.put, List.setIfInBounds_toArray, List.set_cons_zero, List.set_cons_succ, i64_w, i32_w]
              rfl
             refine pure_ (i := 7) (N := some 176) (v := ?_) (a' := ?_) #[true, true, false, true, true, false, false, true, false, false, false, false, false, false, false, false] rfl rfl (any_of HT_.out (by kernel_rfl)) (fun _ _ _ h => h) (Or.inl ⟨by rfl, ?_⟩) ?_ ?_
             rotate_left
             ·
              intro w'
              go_simp
              with_reducible rfl
             rotate_left
             ·
              simp only [Act.put, List.setIfInBounds_toArray, List.set_cons_zero, List.set_cons_succ, i64_w, i32_w]
              rfl
             refine pure_ (i := 8) (N := some 177) (v := ?_) (a' := ?_) #[true, true, false, true, true, false, false, true, true, false, false, false, false, false, false, false] rfl rfl (any_of HT_.out (by kernel_rfl)) (fun _ _ _ h => h) (Or.inl ⟨by rfl, ?_⟩) ?_ ?_
             rotate_left
             ·
              intro w'
              go_simp
              with_reducible rfl
             rotate_left
             ·
              simp only [Act.put, List.setIfInBounds_toArray, List.set_cons_zero, List.set_cons_succ, i64_w, i32_w]
              rfl
             refine pure_ (i := 10) (N := some 179) (v := ?_) (a' := ?_) #[true, true, false, true, true, false, false, true, true, false, true, false, false, false, false, false] rfl rfl (any_of HT_.out (by kernel_rfl)) (fun _ _ _ h => h) (Or.inl ⟨by rfl, ?_⟩) ?_ ?_
             rotate_left
             ·
              intro w'
              go_simp
              with_reducible rfl
             rotate_left
             ·
              simp only [Act.put, List.setIfInBounds_toArray, List.set_cons_zero, List.set_cons_succ, i64_w, i32_w]
              rfl
             refine pure_ (i := 11) (N := some 180) (v := ?_) (a' := ?_) #[true, true, false, true, true, false, false, true, true, false, true, true, false, false, false, false] rfl rfl (any_of HT_.out (by kernel_rfl)) (fun _ _ _ h => h) (Or.inl ⟨by rfl, ?_⟩) ?_ ?_
             rotate_left
             ·
              intro w'
              go_simp
              with_reducible rfl
             rotate_left
             ·
              simp only [Act.put, List.setIfInBounds_toArray, List.set_cons_zero, List.set_cons_succ, i64_w, i32_w]
              rfl
             refine take_ (i := 2) (N := some 171) (v := ?_) (a' := ?_) #[true, true, true, true, true, false, false, true, true, false, true, true, false, false, false, false] rfl rfl (take_ofW HT_.out HW_.out (by kernel_rfl)) (fun _ _ _ h => h) (Or.inl ⟨by rfl, ?_⟩) hHeld ?_ ?_
             rotate_left
             ·
              rintro w' ⟨s0, s1, s2, s3, s4, s5, s6, s7, s8, s9⟩
              go_simp
              with_reducible rfl
             rotate_left
             ·
              simp only [Act.put, List.setIfInBounds_toArray, List.set_cons_zero, List.set_cons_succ, i64_w, i32_w]
              rfl
             refine take_ (i := 5) (N := some 174) (v := ?_) (a' := ?_) #[true, true, true, true, true, true, false, true, true, false, true, true, false, false, false, false] rfl rfl (take_ofW HT_.out HW_.out (by kernel_rfl)) (fun _ _ _ h => h) (Or.inl ⟨by rfl, ?_⟩) hHeld ?_ ?_
             rotate_left
             ·
              rintro w' ⟨s0, s1, s2, s3, s4, s5, s6, s7, s8, s9⟩
              go_simp
              with_reducible rfl
             rotate_left
             ·
              simp only [Act.put, List.setIfInBounds_toArray, List.set_cons_zero, List.set_cons_succ, i64_w, i32_w]
              rfl
             refine take_ (i := 9) (N := some 178) (v := ?_) (a' := ?_) #[true, true, true, true, true, true, false, true, true, true, true, true, false, false, false, false] rfl rfl (take_ofW HT_.out HW_.out (by kernel_rfl)) (fun _ _ _ h => h) (Or.inl ⟨by rfl, ?_⟩) hHeld ?_ ?_
             rotate_left
             ·
              rintro w' ⟨s0, s1, s2, s3, s4, s5, s6, s7, s8, s9⟩
              go_simp
              with_reducible rfl
             rotate_left
             ·
              simp only [Act.put, List.setIfInBounds_toArray, List.set_cons_zero, List.set_cons_succ, i64_w, i32_w]
              rfl
             refine take_ (i := 12) (N := some 181) (v := ?_) (a' := ?_) #[true, true, true, true, true, true, false, true, true, true, true, true, true, false, false, false] rfl rfl (take_ofW HT_.out HW_.out (by kernel_rfl)) (fun _ _ _ h => h) (Or.inl ⟨by rfl, ?_⟩) hHeld ?_ ?_
             rotate_left
             ·
              rintro w' ⟨s0, s1, s2, s3, s4, s5, s6, s7, s8, s9⟩
              go_simp
              with_reducible rfl
             rotate_left
             ·
              simp only [Act.put, List.setIfInBounds_toArray, List.set_cons_zero, List.set_cons_succ, i64_w, i32_w]
              rfl
             refine one_ (i := 6) (N := some 175) #[true, true, true, true, true, true, true, true, true, true, true, true, true, false, false, false] rfl rfl (one_of HT_.out (by kernel_rfl)) (by decide) (fun K hK => ?_)
             refine goes_ Try.func53 (by kernel_rfl) rfl #[.int .i64 a1_8, .agg #[.int .i64 a1_2, .int .i64 a1_3]] (by rfl) rfl rfl (by (try simp only [List.map_toArray, List.map_cons, List.map_nil]); first | done | rfl | (simp only [List.length_drop, List.length_take]; rfl)) ?_
             with_reducible refine (swashplatelaw01_within.calls a1_8 a1_2 a1_3 t991 _ A177.out).mono ?_
             rintro e w192 ⟨rfl, hb⟩
             refine ⟨_, rfl, ?_⟩
             have n0_ := Aside0.mk (Kd.R_below (by (with_reducible repeat (first | apply Kd.R_alloc | apply Kd.R_drewN | apply Kd.R_drew)); exact HO_972000.out) hb)
             have n1_ := Aside0.mk (Kd.R_below (by (with_reducible repeat (first | apply Kd.R_alloc | apply Kd.R_drewN | apply Kd.R_drew)); exact HO_972001.out) hb)
             have n2_ := Aside0.mk (Kd.S_below (by (with_reducible repeat (first | apply Kd.S_alloc | apply Kd.S_drewN | apply Kd.S_drew)); exact HO_972002.out) hb)
             have n3_ := Aside0.mk (blk_below (bk_ BK957.out) hb)
             have n4_ := Aside0.mk (blk_below (bk_ BK958.out) hb)
             have n5_ := Aside0.mk (blk_below (bk_ BK971.out) hb)
             have n6_ := Aside0.mk (blk_below (bk_ BK975.out) hb)
             have n7_ := Aside0.mk (blk_below (bk_ BK981.out) hb)
             have n8_ := Aside0.mk (blk_below (bk_ BK988.out) hb)
             have n9_ := Aside0.mk (below_step (bl_ HB.out) hb)
             clear HO_972000 HO_972001 HO_972002 BK957 BK958 BK971 BK975 BK981 BK988 HB
             have HO_972000 := n0_
             have HO_972001 := n1_
             have HO_972002 := n2_
             have BK957 := n3_
             have BK958 := n4_
             have BK971 := n5_
             have BK975 := n6_
             have BK981 := n7_
             have BK988 := n8_
             have HB := n9_
             clear n0_ n1_ n2_ n3_ n4_ n5_ n6_ n7_ n8_ n9_
             (try clear hb)
             (try clear hb2)
             (try clear hk)
             (try clear hi)
             refine hK.out _ _ ⟨(blk_cell BK958.out 0).trans rfl, (blk_cell BK958.out 1).trans rfl, (blk_cell BK958.out 2).trans rfl, (blk_cell BK958.out 3).trans rfl, (blk_cell BK958.out 4).trans rfl, (blk_cell BK958.out 5).trans rfl, (blk_cell BK958.out 6).trans rfl, (blk_cell BK958.out 7).trans rfl, (blk_cell BK958.out 8).trans rfl, (blk_cell BK958.out 9).trans rfl⟩ (fun hHeld => ?_)
             clear hK K
             refine norm_ (a' := ?_) ?_ ?_
             rotate_left
             ·
              show Act.put _ (some 175) _ = _
              simp only [Act.put, List.setIfInBounds_toArray, List.set_cons_zero, List.set_cons_succ, i64_w, i32_w]
              rfl
             refine one_ (i := 13) (N := some 182) #[true, true, true, true, true, true, true, true, true, true, true, true, true, true, false, false] rfl rfl (one_of HT_.out (by kernel_rfl)) (by decide) (fun K hK => ?_)
             refine goes_ Try.func53 (by kernel_rfl) rfl #[.int .i64 a1_9, .agg #[.int .i64 a1_2, .int .i64 a1_3]] (by rfl) rfl rfl (by (try simp only [List.map_toArray, List.map_cons, List.map_nil]); first | done | rfl | (simp only [List.length_drop, List.length_take]; rfl)) ?_
             with_reducible refine (swashplatelaw01_within.calls a1_9 a1_2 a1_3 t992 _ A178.out).mono ?_
             rintro e w193 ⟨rfl, hb⟩
             refine ⟨_, rfl, ?_⟩
             have n0_ := Aside0.mk (Kd.R_below (by (with_reducible repeat (first | apply Kd.R_alloc | apply Kd.R_drewN | apply Kd.R_drew)); exact HO_972000.out) hb)
             have n1_ := Aside0.mk (Kd.R_below (by (with_reducible repeat (first | apply Kd.R_alloc | apply Kd.R_drewN | apply Kd.R_drew)); exact HO_972001.out) hb)
             have n2_ := Aside0.mk (Kd.S_below (by (with_reducible repeat (first | apply Kd.S_alloc | apply Kd.S_drewN | apply Kd.S_drew)); exact HO_972002.out) hb)
             have n3_ := Aside0.mk (blk_below (bk_ BK957.out) hb)
             have n4_ := Aside0.mk (blk_below (bk_ BK958.out) hb)
             have n5_ := Aside0.mk (blk_below (bk_ BK971.out) hb)
             have n6_ := Aside0.mk (blk_below (bk_ BK975.out) hb)
             have n7_ := Aside0.mk (blk_below (bk_ BK981.out) hb)
             have n8_ := Aside0.mk (blk_below (bk_ BK988.out) hb)
             have n9_ := Aside0.mk (below_step (bl_ HB.out) hb)
             clear HO_972000 HO_972001 HO_972002 BK957 BK958 BK971 BK975 BK981 BK988 HB
             have HO_972000 := n0_
             have HO_972001 := n1_
             have HO_972002 := n2_
             have BK957 := n3_
             have BK958 := n4_
             have BK971 := n5_
             have BK975 := n6_
             have BK981 := n7_
             have BK988 := n8_
             have HB := n9_
             clear n0_ n1_ n2_ n3_ n4_ n5_ n6_ n7_ n8_ n9_
             (try clear hb)
             (try clear hb2)
             (try clear hk)
             (try clear hi)
             refine hK.out _ _ ⟨(blk_cell BK958.out 0).trans rfl, (blk_cell BK958.out 1).trans rfl, (blk_cell BK958.out 2).trans rfl, (blk_cell BK958.out 3).trans rfl, (blk_cell BK958.out 4).trans rfl, (blk_cell BK958.out 5).trans rfl, (blk_cell BK958.out 6).trans rfl, (blk_cell BK958.out 7).trans rfl, (blk_cell BK958.out 8).trans rfl, (blk_cell BK958.out 9).trans rfl⟩ (fun hHeld => ?_)
             clear hK K
             refine norm_ (a' := ?_) ?_ ?_
             rotate_left
             ·
              show Act.put _ (some 182) _ = _
              simp only [Act.put, List.setIfInBounds_toArray, List.set_cons_zero, List.set_cons_succ, i64_w, i32_w]
              rfl
             refine pure_ (i := 14) (N := some 19) (v := ?_) (a' := ?_) #[true, true, true, true, true, true, true, true, true, true, true, true, true, true, true, false] rfl rfl (any_of HT_.out (by kernel_rfl)) (fun _ _ _ h => h) (Or.inl ⟨by rfl, ?_⟩) ?_ ?_
             rotate_left
             ·
              intro w'
              go_simp
              with_reducible rfl
             rotate_left
             ·
              simp only [Act.put, List.setIfInBounds_toArray, List.set_cons_zero, List.set_cons_succ, i64_w, i32_w]
              rfl
             refine pure_ (i := 15) (N := some 20) (v := ?_) (a' := ?_) #[true, true, true, true, true, true, true, true, true, true, true, true, true, true, true, true] rfl rfl (any_of HT_.out (by kernel_rfl)) (fun _ _ _ h => h) (Or.inl ⟨by rfl, ?_⟩) ?_ ?_
             rotate_left
             ·
              intro w'
              go_simp
              with_reducible rfl
             rotate_left
             ·
              simp only [Act.put, List.setIfInBounds_toArray, List.set_cons_zero, List.set_cons_succ, i64_w, i32_w]
              rfl
             refine done_ (done_of HT_.out (by kernel_rfl)) ?_
             have hnb194 := NB971_957.out
             have hnc194 := NB957_971.out
             have hnb195 := NB971_958.out
             have hnc195 := NB958_971.out
             have hnb196 := NB971_975.out
             have hnc196 := NB975_971.out
             have hnb197 := NB971_981.out
             have hnc197 := NB981_971.out
             have hnb198 := NB971_988.out
             have hnc198 := NB988_971.out
             have hcz199_0 : w193.cell? ⟨gb971, 0, none⟩ = some (.slice Ao32 t962.length co32) := (blk_cell BK971.out 0).trans rfl
             have hcz199_1 : w193.cell? ⟨gb971, 1, none⟩ = some (.slice Ao36 t965.length co36) := (blk_cell BK971.out 1).trans rfl
             have hcz199_2 : w193.cell? ⟨gb971, 2, none⟩ = some (.slice Ao37 t968.length co37) := (blk_cell BK971.out 2).trans rfl
             have hfz199_0 := blk_frozen BK971.out 0
             have hfz199_1 := blk_frozen BK971.out 1
             have hfz199_2 := blk_frozen BK971.out 2
             try go_wp2_with (first | ((with_reducible refine gate_callee (f := 30) rfl ?_); refine goesL_ (some 199) rfl rfl Try.func30 (by kernel_rfl) rfl #[.agg #[.slice Ao32 t962.length co32, .slice Ao36 t965.length co36, .slice Ao37 t968.length co37], .agg #[.int .i64 ji179, .int .i64 ji180], .agg #[.int .i64 ji181, .int .i64 ji182]] rfl (by (try simp only [List.map_toArray, List.map_cons, List.map_nil]); first | done | (simp only [hji179, hji180, hji181, hji182]; rfl) | rfl | (simp only [List.length_drop, List.length_take]; rfl)) ?_; (with_reducible refine (spans_Bound.calls _ _ t962 _ _ t965 _ _ t968 ji179 ji180 ji181 ji182 t993 t994 t995 _ ?side1 ?side2 ?side3 ?side4 ?side5 ?side6 A183.out).mono ?_); (case side1 => exact cr_ (Kd.R_reads' HO_972000.out).2.2); (case side2 => exact (Kd.R_reads' HO_972000.out).2.1); (case side3 => exact cr_ (Kd.R_reads' HO_972001.out).2.2); (case side4 => exact (Kd.R_reads' HO_972001.out).2.1); (case side5 => exact cr_ (Kd.S_reads' HO_972002.out).2.2); (case side6 => exact (Kd.S_reads' HO_972002.out).2.1); rintro e w200 ⟨rfl, hb⟩; refine ⟨_, rfl, ?_⟩; have n0_ := Aside0.mk (Kd.R_below (by (with_reducible repeat (first | apply Kd.R_alloc | apply Kd.R_drewN | apply Kd.R_drew)); exact HO_972000.out) hb); have n1_ := Aside0.mk (Kd.R_below (by (with_reducible repeat (first | apply Kd.R_alloc | apply Kd.R_drewN | apply Kd.R_drew)); exact HO_972001.out) hb); have n2_ := Aside0.mk (Kd.S_below (by (with_reducible repeat (first | apply Kd.S_alloc | apply Kd.S_drewN | apply Kd.S_drew)); exact HO_972002.out) hb); have n3_ := Aside0.mk (blk_below (bk_ BK957.out) hb); have n4_ := Aside0.mk (blk_below (bk_ BK958.out) hb); have n5_ := Aside0.mk (blk_below (bk_ BK971.out) hb); have n6_ := Aside0.mk (blk_below (bk_ BK975.out) hb); have n7_ := Aside0.mk (blk_below (bk_ BK981.out) hb); have n8_ := Aside0.mk (blk_below (bk_ BK988.out) hb); have n9_ := Aside0.mk (below_step (bl_ HB.out) hb); clear HO_972000 HO_972001 HO_972002 BK957 BK958 BK971 BK975 BK981 BK988 HB; have HO_972000 := n0_; have HO_972001 := n1_; have HO_972002 := n2_; have BK957 := n3_; have BK958 := n4_; have BK971 := n5_; have BK975 := n6_; have BK981 := n7_; have BK988 := n8_; have HB := n9_; clear n0_ n1_ n2_ n3_ n4_ n5_ n6_ n7_ n8_ n9_; (try clear hb); (try clear hb2); (try clear hk); (try clear hi)) | ((with_reducible refine gate_dst (N := 21) rfl ?_); refine box_event ?hg (N := 21) ?hd (cs := #[.int .i64 0, .int .i64 0]) (t := 27) ?hr ?_; (case hd => rfl); (case hg => rfl); (case hr => first | (go_simp; done) | (go_simp; rfl)); intro gb996 hg w201 hbox hb; have n0_ := Aside0.mk (Kd.R_below (by (with_reducible repeat (first | apply Kd.R_alloc | apply Kd.R_drewN | apply Kd.R_drew)); exact HO_972000.out) hb); have n1_ := Aside0.mk (Kd.R_below (by (with_reducible repeat (first | apply Kd.R_alloc | apply Kd.R_drewN | apply Kd.R_drew)); exact HO_972001.out) hb); have n2_ := Aside0.mk (Kd.S_below (by (with_reducible repeat (first | apply Kd.S_alloc | apply Kd.S_drewN | apply Kd.S_drew)); exact HO_972002.out) hb); have n3_ := Aside0.mk (blk_below (bk_ BK957.out) hb); have n4_ := Aside0.mk (blk_below (bk_ BK958.out) hb); have n5_ := Aside0.mk (blk_below (bk_ BK971.out) hb); have n6_ := Aside0.mk (blk_below (bk_ BK975.out) hb); have n7_ := Aside0.mk (blk_below (bk_ BK981.out) hb); have n8_ := Aside0.mk (blk_below (bk_ BK988.out) hb); have n9_ := Aside0.mk (below_step (bl_ HB.out) hb); have n10_ := Aside0.mk (hbox); have n11_ := Aside0.mk (szl_ hg HB.out); have n12_ := Aside0.mk (szl_ hg HB.out); have n13_ := Aside0.mk (nel_ hg BK957.out); have n14_ := Aside0.mk (ner_ hg BK957.out); have n15_ := Aside0.mk (nel_ hg BK958.out); have n16_ := Aside0.mk (ner_ hg BK958.out); have n17_ := Aside0.mk (nel_ hg BK971.out); have n18_ := Aside0.mk (ner_ hg BK971.out); have n19_ := Aside0.mk (nel_ hg BK975.out); have n20_ := Aside0.mk (ner_ hg BK975.out); have n21_ := Aside0.mk (nel_ hg BK981.out); have n22_ := Aside0.mk (ner_ hg BK981.out); have n23_ := Aside0.mk (nel_ hg BK988.out); have n24_ := Aside0.mk (ner_ hg BK988.out); clear HO_972000 HO_972001 HO_972002 BK957 BK958 BK971 BK975 BK981 BK988 HB; have HO_972000 := n0_; have HO_972001 := n1_; have HO_972002 := n2_; have BK957 := n3_; have BK958 := n4_; have BK971 := n5_; have BK975 := n6_; have BK981 := n7_; have BK988 := n8_; have HB := n9_; have BK996 := n10_; have GW996 := n11_; have GE996 := n12_; have NB957_996 := n13_; have NB996_957 := n14_; have NB958_996 := n15_; have NB996_958 := n16_; have NB971_996 := n17_; have NB996_971 := n18_; have NB975_996 := n19_; have NB996_975 := n20_; have NB981_996 := n21_; have NB996_981 := n22_; have NB988_996 := n23_; have NB996_988 := n24_; clear n0_ n1_ n2_ n3_ n4_ n5_ n6_ n7_ n8_ n9_ n10_ n11_ n12_ n13_ n14_ n15_ n16_ n17_ n18_ n19_ n20_ n21_ n22_ n23_ n24_ hb hbox hg; have hnb202 := NB996_957.out; have hnc202 := NB957_996.out; have hnb203 := NB996_958.out; have hnc203 := NB958_996.out; have hnb204 := NB996_971.out; have hnc204 := NB971_996.out; have hnb205 := NB996_975.out; have hnc205 := NB975_996.out; have hnb206 := NB996_981.out; have hnc206 := NB981_996.out; have hnb207 := NB996_988.out; have hnc207 := NB988_996.out; have hcz208_0 : w201.cell? ⟨gb996, 0, none⟩ = some (.int .i64 0) := (blk_cell BK996.out 0).trans rfl; have hcz208_1 : w201.cell? ⟨gb996, 1, none⟩ = some (.int .i64 0) := (blk_cell BK996.out 1).trans rfl; have hfz208_0 := blk_frozen BK996.out 0; have hfz208_1 := blk_frozen BK996.out 1; have hnb209 := NB975_957.out; have hnc209 := NB957_975.out; have hnb210 := NB975_958.out; have hnc210 := NB958_975.out; have hnb211 := NB975_981.out; have hnc211 := NB981_975.out; have hnb212 := NB975_988.out; have hnc212 := NB988_975.out; have hcz213_0 : w201.cell? ⟨gb975, 0, none⟩ = some (.int .i64 t972) := (blk_cell BK975.out 0).trans rfl; have hcz213_1 : w201.cell? ⟨gb975, 1, none⟩ = some (.int .i64 t973) := (blk_cell BK975.out 1).trans rfl; have hfz213_0 := blk_frozen BK975.out 0; have hfz213_1 := blk_frozen BK975.out 1) | (go_at_call 22; (with_reducible refine (swashplatelaw01_works.calls kj83  t997 _ A187.out).mono ?_); rintro e w214 ⟨rfl, hb⟩; have n0_ := Aside0.mk (Kd.R_below (by (with_reducible repeat (first | apply Kd.R_alloc | apply Kd.R_drewN | apply Kd.R_drew)); exact (Kd.R_mono (Kd.R_far (p := ⟨gb996, 1, none⟩) (Kd.R_far (p := ⟨gb996, 0, none⟩) (Kd.R_types HO_972000.out BK996.out (by decide)) (fun _ hk => hk.2) (.int .i64 t993)) (fun _ hk => hk.2) (.int .i64 t994)) (fun _ h_ => h_.1))) hb); have n1_ := Aside0.mk (Kd.R_below (by (with_reducible repeat (first | apply Kd.R_alloc | apply Kd.R_drewN | apply Kd.R_drew)); exact (Kd.R_mono (Kd.R_far (p := ⟨gb996, 1, none⟩) (Kd.R_far (p := ⟨gb996, 0, none⟩) (Kd.R_types HO_972001.out BK996.out (by decide)) (fun _ hk => hk.2) (.int .i64 t993)) (fun _ hk => hk.2) (.int .i64 t994)) (fun _ h_ => h_.1))) hb); have n2_ := Aside0.mk (Kd.S_below (by (with_reducible repeat (first | apply Kd.S_alloc | apply Kd.S_drewN | apply Kd.S_drew)); exact (Kd.S_mono (Kd.S_far (p := ⟨gb996, 1, none⟩) (Kd.S_far (p := ⟨gb996, 0, none⟩) (Kd.S_types HO_972002.out BK996.out (by decide)) (fun _ hk => hk.2) (.int .i64 t993)) (fun _ hk => hk.2) (.int .i64 t994)) (fun _ h_ => h_.1))) hb); have n3_ := Aside0.mk (blk_below (g := gb957) (o := .cells #[.slice A0_0 l0_0.length c0_0, .slice A0_1 l0_1.length c0_1, .slice A0_2 l0_2.length c0_2] 25 (0, 0)) (by (with_reducible repeat (first | refine blk_drewN ?_ _ | refine blk_drew ?_ | refine blk_alloc ?_ _)); refine blk_far ?_ NB957_996.out _; (with_reducible repeat (first | refine blk_drewN ?_ _ | refine blk_drew ?_ | refine blk_alloc ?_ _)); refine blk_far ?_ NB957_996.out _; (with_reducible repeat (first | refine blk_drewN ?_ _ | refine blk_drew ?_ | refine blk_alloc ?_ _)); exact BK957.out) hb); have n4_ := Aside0.mk (blk_below (g := gb958) (o := .cells #[.int .i64 a1_0, .int .i64 a1_1, .int .i64 a1_2, .int .i64 a1_3, .int .i64 a1_4, .int .i64 a1_5, .int .i64 a1_6, .int .i64 a1_7, .int .i64 a1_8, .int .i64 a1_9] 86 (0, 0)) (by (with_reducible repeat (first | refine blk_drewN ?_ _ | refine blk_drew ?_ | refine blk_alloc ?_ _)); refine blk_far ?_ NB958_996.out _; (with_reducible repeat (first | refine blk_drewN ?_ _ | refine blk_drew ?_ | refine blk_alloc ?_ _)); refine blk_far ?_ NB958_996.out _; (with_reducible repeat (first | refine blk_drewN ?_ _ | refine blk_drew ?_ | refine blk_alloc ?_ _)); exact BK958.out) hb); have n5_ := Aside0.mk (blk_below (g := gb971) (o := .cells #[.slice Ao32 t962.length co32, .slice Ao36 t965.length co36, .slice Ao37 t968.length co37] 25 (0, 0)) (by (with_reducible repeat (first | refine blk_drewN ?_ _ | refine blk_drew ?_ | refine blk_alloc ?_ _)); refine blk_far ?_ NB971_996.out _; (with_reducible repeat (first | refine blk_drewN ?_ _ | refine blk_drew ?_ | refine blk_alloc ?_ _)); refine blk_far ?_ NB971_996.out _; (with_reducible repeat (first | refine blk_drewN ?_ _ | refine blk_drew ?_ | refine blk_alloc ?_ _)); exact BK971.out) hb); have n6_ := Aside0.mk (blk_below (g := gb975) (o := .cells #[.int .i64 t972, .int .i64 t973] 27 (0, 0)) (by (with_reducible repeat (first | refine blk_drewN ?_ _ | refine blk_drew ?_ | refine blk_alloc ?_ _)); refine blk_far ?_ NB975_996.out _; (with_reducible repeat (first | refine blk_drewN ?_ _ | refine blk_drew ?_ | refine blk_alloc ?_ _)); refine blk_far ?_ NB975_996.out _; (with_reducible repeat (first | refine blk_drewN ?_ _ | refine blk_drew ?_ | refine blk_alloc ?_ _)); exact BK975.out) hb); have n7_ := Aside0.mk (blk_below (g := gb981) (o := .cells #[.int .i64 t978, .int .i64 t979] 27 (0, 0)) (by (with_reducible repeat (first | refine blk_drewN ?_ _ | refine blk_drew ?_ | refine blk_alloc ?_ _)); refine blk_far ?_ NB981_996.out _; (with_reducible repeat (first | refine blk_drewN ?_ _ | refine blk_drew ?_ | refine blk_alloc ?_ _)); refine blk_far ?_ NB981_996.out _; (with_reducible repeat (first | refine blk_drewN ?_ _ | refine blk_drew ?_ | refine blk_alloc ?_ _)); exact BK981.out) hb); have n8_ := Aside0.mk (blk_below (g := gb988) (o := .cells #[.int .i64 t985, .int .i64 t986] 27 (0, 0)) (by (with_reducible repeat (first | refine blk_drewN ?_ _ | refine blk_drew ?_ | refine blk_alloc ?_ _)); refine blk_far ?_ NB988_996.out _; (with_reducible repeat (first | refine blk_drewN ?_ _ | refine blk_drew ?_ | refine blk_alloc ?_ _)); refine blk_far ?_ NB988_996.out _; (with_reducible repeat (first | refine blk_drewN ?_ _ | refine blk_drew ?_ | refine blk_alloc ?_ _)); exact BK988.out) hb); have n9_ := Aside0.mk (blk_below (g := gb996) (o := .cells #[.int .i64 t993, .int .i64 t994] 27 (0, 0)) (by (with_reducible repeat (first | refine blk_drewN ?_ _ | refine blk_drew ?_ | refine blk_alloc ?_ _)); refine blk_put (cs := #[.int .i64 t993, .int .i64 0]) ?_ 1 _ rfl; (with_reducible repeat (first | refine blk_drewN ?_ _ | refine blk_drew ?_ | refine blk_alloc ?_ _)); refine blk_put (cs := #[.int .i64 0, .int .i64 0]) ?_ 0 _ rfl; (with_reducible repeat (first | refine blk_drewN ?_ _ | refine blk_drew ?_ | refine blk_alloc ?_ _)); exact BK996.out) hb); have n10_ := Aside0.mk (below_step (bl_ HB.out) hb); clear HO_972000 HO_972001 HO_972002 BK957 BK958 BK971 BK975 BK981 BK988 BK996 HB; have HO_972000 := n0_; have HO_972001 := n1_; have HO_972002 := n2_; have BK957 := n3_; have BK958 := n4_; have BK971 := n5_; have BK975 := n6_; have BK981 := n7_; have BK988 := n8_; have BK996 := n9_; have HB := n10_; clear n0_ n1_ n2_ n3_ n4_ n5_ n6_ n7_ n8_ n9_ n10_; (try clear hb); (try clear hb2); (try clear hk); (try clear hi)))
             go_ret
             exact ⟨by first | rfl | (simp [errW_none, errW_some] <;> rfl) | (simp only [← hji179, ← hji180, ← hji181, ← hji182]; first | rfl | (simp [errW_none, errW_some] <;> rfl)) | (simp [*, errW_none, errW_some] <;> rfl), bl_ HB.out⟩
            ·
             rw [if_neg c186] at H
             have c186b0 : decide (t994 ≤ t973) = false := decide_eq_false c186
             clear c186
             exact absurd ((Option.some.inj H).trans hrT.out) (by decide)
           ·
            rw [if_neg c185] at H
            have c185b0 : decide (t972 ≤ t993) = false := decide_eq_false c185
            clear c185
            exact absurd ((Option.some.inj H).trans hrT.out) (by decide)
          ·
           rw [if_neg c184] at H
           have c184b0 : (t995 == 0) = false := beq_eq_false_iff_ne.mpr c184
           have c184b1 : (t995 != 0) = true := bne_iff_ne.mpr c184
           exact absurd ((Option.some.inj H).trans hrT.out) (by decide)
end Go.Proofs.Yteodlmgmmpkpoaa.PS
end
