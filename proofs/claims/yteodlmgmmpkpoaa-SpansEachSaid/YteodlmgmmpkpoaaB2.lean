-- Printed by a program of this session out of the translation (hybrid print) and out of hand proofs. Not trusted: Lean checks it.
import Derived.Below
import Derived.Deep.Draws
import Derived.Deep.AppendLies
import Derived.Maps.AppendAt
import Derived.OwnWalk
import Derived.Laws.BytesArg
import Derived.Laws.MakeOwn
import Derived.Laws.OwnMore
import Derived.Deep.OwnRows
import Derived.Tactics
import Derived.Lib.ConvBytes
import Derived.Laws.Slices
import Derived.WalkKit
import Derived.KernelRfl
import Derived.RowKit3
import Derived.Deep.LoopGhost
import Derived.Deep.QuietTactic
import Derived.BigQuiet
import Derived.WideLaws
import Derived.Deep.DeepCutAuto
import Derived.Deep.CutBlock
import Derived.Deep.RegionHeld3
import Derived.Laws.Rows
import Derived.Lib.AppendStr
import Derived.ArgAppend
import Derived.Laws.IdiomCopy
import Derived.RowKit
import Derived.OrdersHeld
import Derived.Laws.BitsLemmas
import Derived.Laws.StructEq
import Derived.Test.YteodlmgmmpkpoaaProg
import Derived.Laws.EntriesVeiled
import Derived.StillTailTactics
import Derived.RangeFuncNested
import Derived.RangeFuncBound
import Derived.RangeFuncCalls
import Derived.RangeFuncLeaves
import Derived.Shelf.Abstract
import Derived.OwnWalkIn
import Derived.TacticsInMore
import Derived.LoopNIn
import Derived.LoopIn
import Derived.RegionIn
import Derived.Test.YteodlmgmmpkpoaaB1
section
namespace Go.Proofs.Yteodlmgmmpkpoaa.PS
open Go.RowKit Go.Proofs.YteodlmgmmpkpoaaW.PrintWords Go.Proofs.YteodlmgmmpkpoaaW.PrintLast Go.Proofs.YteodlmgmmpkpoaaW.PrintMore
set_option linter.unusedVariables false
theorem ediv_bd {a b B : Int} (hb : 0 < b) (h0 : -B ≤ a) (h1 : a ≤ B) (hB : 0 ≤ B) : -B ≤ a / b ∧ a / b ≤ B := by
  constructor
  · rw [Int.le_ediv_iff_mul_le hb]
    have : -B * b ≤ -B * 1 := Int.mul_le_mul_of_nonpos_left (by omega) (by omega)
    omega
  · have : a / b < B + 1 := by
      rw [Int.ediv_lt_iff_lt_mul hb]
      have : (B + 1) * 1 ≤ (B + 1) * b := Int.mul_le_mul_of_nonneg_left (by omega) (by omega)
      omega
    omega
theorem floor_total (a b : Int) (hb : 0 < b) (h0 : -4000000000000000000 ≤ a) (h1 : a ≤ 4000000000000000000) : spans_floor.f a b = some (a / b) := by
  unfold spans_floor.f
  have hq := ediv_bd hb h0 h1 (by decide)
  rw [if_neg (by omega), Int.tmod_eq_emod, Int.tdiv_eq_ediv]
  have hm0 := Int.emod_nonneg a (show b ≠ 0 by omega)
  have hm1 := Int.emod_lt_of_pos a hb
  by_cases hd : 0 ≤ a ∨ b ∣ a
  · rw [if_pos hd, if_pos hd, if_neg (by omega), Int.add_zero, wr64 (by omega) (by omega)]
  · rw [if_neg hd, if_neg hd, if_pos (by omega), Int.sign_eq_one_of_pos hb, show wrap64 (a / b + 1) = a / b + 1 from wr64 (by omega) (by omega), Int.add_sub_cancel, wr64 (by omega) (by omega)]
theorem stops_loop (l : List Int) (hl : l.length ≤ 12) (lo hi : Int) : ∀ (d k i : Nat) (acc : List Int), l.length - i = d → i ≤ l.length → d < k → acc.length ≤ 1 + i →
    spans_stops.l0 k acc l l.length i lo hi = some ((acc ++ (l.drop i).filter (fun x => decide (lo < x) && decide (x < hi))) ++ (if lo < hi then [hi] else []))
  | d, k, i, acc, hd, hi', hk, ha => by
    obtain ⟨k, rfl⟩ : ∃ m, k = m + 1 := ⟨k - 1, by omega⟩
    simp only [spans_stops.l0]
    by_cases hlt : i < l.length
    · obtain ⟨d, rfl⟩ : ∃ m, d = m + 1 := ⟨d - 1, by omega⟩
      rw [if_pos (by omega), if_pos (by omega), if_pos (by omega), rd_nat, drop_step l i hlt, List.filter_cons]
      have e1 : wrap64 ((i : Int) + 1) = ((i + 1 : Nat) : Int) := by rw [wr64 (by omega) (by omega)]; rfl
      rw [e1]
      by_cases h1 : gI l i > lo
      · rw [if_pos h1]
        by_cases h2 : gI l i < hi
        · rw [if_pos h2, if_pos (by omega)]
          rw [stops_loop l hl lo hi d k (i + 1) _ (by omega) (by omega) (by omega) (by simp; omega)]
          simp [h1, h2]
        · rw [if_neg h2]
          rw [stops_loop l hl lo hi d k (i + 1) _ (by omega) (by omega) (by omega) (by omega)]
          simp [h2]
      · rw [if_neg h1]
        rw [stops_loop l hl lo hi d k (i + 1) _ (by omega) (by omega) (by omega) (by omega)]
        have : ¬ lo < gI l i := by omega
        simp [this]
    · rw [if_neg (by omega), List.drop_of_length_le (by omega)]
      by_cases h1 : hi > lo
      · rw [if_pos h1, if_pos (by omega), if_pos (by omega)]; simp
      · rw [if_neg h1, if_neg (by omega)]; simp
theorem stops_total (l : List Int) (hl : l.length ≤ 12) (lo hi : Int) (k : Nat) (hk : 12 < k) : spans_stops.f k l lo hi = some (stopsL l lo hi) := by
  unfold spans_stops.f stopsL
  have := stops_loop l hl lo hi (l.length - 0) k 0 [lo] rfl (Nat.zero_le _) (by omega) (by simp)
  rw [show ((0 : Nat) : Int) = 0 from rfl] at this
  rw [this, List.drop_zero]
  rfl
def GoodP (p : Pt) : Prop := 0 < p.d ∧ p.d ≤ 100000000 ∧ -(1000000 * p.d) ≤ p.n ∧ p.n ≤ 1000000 * p.d
theorem good_floor {p : Pt} (h : GoodP p) : -1000000 ≤ p.n / p.d ∧ p.n / p.d ≤ 1000000 ∧ 0 ≤ p.n - p.n / p.d * p.d ∧ p.n - p.n / p.d * p.d < p.d := by
  obtain ⟨h1, h2, h3, h4⟩ := h
  have e := Int.mul_ediv_add_emod p.n p.d
  have hm0 := Int.emod_nonneg p.n (show p.d ≠ 0 by omega)
  have hm1 := Int.emod_lt_of_pos p.n h1
  have e2 : p.n / p.d * p.d = p.d * (p.n / p.d) := Int.mul_comm _ _
  refine ⟨?_, ?_, by omega, by omega⟩
  · rw [Int.le_ediv_iff_mul_le h1]; omega
  · have : p.n / p.d < 1000000 + 1 := by rw [Int.ediv_lt_iff_lt_mul h1]; omega
    omega
theorem frac_lt {p q : Pt} (hp : GoodP p) (hq : GoodP q) :
    (p.n / p.d < q.n / q.d → p.n * q.d < q.n * p.d) ∧ (p.n / p.d = q.n / q.d → (p.n * q.d < q.n * p.d ↔ (p.n - p.n / p.d * p.d) * q.d < (q.n - q.n / q.d * q.d) * p.d)) := by
  obtain ⟨p1, p2, p3, p4⟩ := good_floor hp
  obtain ⟨q1, q2, q3, q4⟩ := good_floor hq
  have hpd := hp.1
  have hqd := hq.1
  constructor
  · intro h
    generalize p.n / p.d = a at *
    generalize q.n / q.d = b at *
    have e1 : p.n < (a + 1) * p.d := by rw [Int.add_mul, Int.one_mul]; omega
    have e2 : (a + 1) * p.d ≤ b * p.d := Int.mul_le_mul_of_nonneg_right (by omega) (by omega)
    have e3 : p.n * q.d < b * p.d * q.d := Int.mul_lt_mul_of_pos_right (by omega) hqd
    have e4 : b * q.d * p.d ≤ q.n * p.d := Int.mul_le_mul_of_nonneg_right (by omega) (by omega)
    have e5 : b * p.d * q.d = b * q.d * p.d := by grind
    omega
  · intro h
    rw [← h]
    generalize p.n / p.d = a at *
    have e1 : (p.n - a * p.d) * q.d = p.n * q.d - a * p.d * q.d := Int.sub_mul _ _ _
    have e2 : (q.n - a * q.d) * p.d = q.n * p.d - a * q.d * p.d := Int.sub_mul _ _ _
    have e3 : a * p.d * q.d = a * q.d * p.d := by grind
    omega
theorem or_total (a b : Int) (k : Nat) (hk : 3 ≤ k) : cmp_Or_int.f k [a, b] = some (if a = 0 then b else a) := by
  obtain ⟨k, rfl⟩ : ∃ m, k = m + 3 := ⟨k - 3, by omega⟩
  unfold cmp_Or_int.f
  have e0 : rd [a, b] 0 = a := rfl
  have e1 : rd [a, b] 1 = b := rfl
  have w0 : wrap64 (0 + 1) = 1 := by rw [wr64 (by omega) (by omega)]; rfl
  have w1 : wrap64 (1 + 1) = 2 := by rw [wr64 (by omega) (by omega)]; rfl
  rw [show (([a, b] : List Int).length : Int) = 2 from rfl]
  simp only [cmp_Or_int.l0]
  rw [if_pos (by omega), if_pos (by omega), if_pos (by simp), e0, w0]
  by_cases ha : a = 0
  · rw [if_pos ha, if_pos (by omega), if_pos (by omega), if_pos (by simp), e1, w1, if_pos ha]
    by_cases hb : b = 0
    · rw [if_pos hb, if_neg (by omega), hb]
    · rw [if_neg hb]
  · rw [if_neg ha, if_neg ha]
theorem compare_total {p q : Pt} (hp : GoodP p) (hq : GoodP q) (k : Nat) (hk : 3 ≤ k) :
    ∃ c, spans_value_compare.f k p.n p.d q.n q.d = some c ∧ (c < 0 ↔ p.n * q.d < q.n * p.d) ∧ (c > 0 ↔ q.n * p.d < p.n * q.d) := by
  obtain ⟨p1, p2, p3, p4⟩ := good_floor hp
  obtain ⟨q1, q2, q3, q4⟩ := good_floor hq
  obtain ⟨l1, l2⟩ := frac_lt hp hq
  obtain ⟨m1, m2⟩ := frac_lt hq hp
  obtain ⟨hpd, hpd1, hp3, hp4⟩ := hp
  obtain ⟨hqd, hqd1, hq3, hq4⟩ := hq
  unfold spans_value_compare.f
  rw [floor_total _ _ hpd (by omega) (by omega), Option.bind_some, floor_total _ _ hqd (by omega) (by omega), Option.bind_some]
  have b1 := mul_bd (a := p.n - p.n / p.d * p.d) (b := q.d) p3 (show _ ≤ 100000000 by omega) (by omega) hqd1
  have b2 := mul_bd (a := q.n - q.n / q.d * q.d) (b := p.d) q3 (show _ ≤ 100000000 by omega) (by omega) hpd1
  have b3 : -(1000001 * 100000000) ≤ p.n / p.d * p.d ∧ p.n / p.d * p.d ≤ 1000001 * 100000000 := by omega
  have b4 : -(1000001 * 100000000) ≤ q.n / q.d * q.d ∧ q.n / q.d * q.d ≤ 1000001 * 100000000 := by omega
  rw [show wrap64 (p.n / p.d * p.d) = p.n / p.d * p.d from wr64 (by omega) (by omega), show wrap64 (q.n / q.d * q.d) = q.n / q.d * q.d from wr64 (by omega) (by omega),
    show wrap64 (p.n - p.n / p.d * p.d) = p.n - p.n / p.d * p.d from wr64 (by omega) (by omega), show wrap64 (q.n - q.n / q.d * q.d) = q.n - q.n / q.d * q.d from wr64 (by omega) (by omega),
    show wrap64 ((p.n - p.n / p.d * p.d) * q.d) = (p.n - p.n / p.d * p.d) * q.d from wr64 (by omega) (by omega), show wrap64 ((q.n - q.n / q.d * q.d) * p.d) = (q.n - q.n / q.d * q.d) * p.d from wr64 (by omega) (by omega),
    show wrap64 (p.n / p.d - q.n / q.d) = p.n / p.d - q.n / q.d from wr64 (by omega) (by omega), wr64 (by omega) (by omega), or_total _ _ _ hk, Option.bind_some]
  refine ⟨_, rfl, ?_⟩
  by_cases he : p.n / p.d = q.n / q.d
  · rw [if_pos (by omega)]
    have n1 := l2 he
    have n2 := m2 he.symm
    omega
  · rw [if_neg (by omega)]
    rcases Int.lt_or_gt_of_ne he with h | h
    · have := l1 h; omega
    · have := m1 h; omega
end Go.Proofs.Yteodlmgmmpkpoaa.PS
end
section
namespace Go.Proofs.Yteodlmgmmpkpoaa.PS
open Go.RowKit Go.Shelf Go.Proofs.YteodlmgmmpkpoaaW.PrintWords Go.Proofs.YteodlmgmmpkpoaaW.PrintLast Go.Proofs.YteodlmgmmpkpoaaW.PrintMore
set_option linter.unusedVariables false
set_option linter.unusedSimpArgs false
attribute [local go_sem] Oper.semAt_some
def KpS (n : Nat) (S : Nat → Prop) (W W' : World) : Prop := Below n W W' ∧ ∀ k c t f, W.heap[k]? = some (.cells c t f) → ¬ S k → W'.heap[k]? = some (.cells c t f)
theorem KpS.cell {n : Nat} {S : Nat → Prop} {W W' : World} (h : KpS n S W W') {p : Addr} {v : Value} (hc : W.cell? p = some v) (hp : ¬ S p.block) : W'.cell? p = some v := by
  unfold World.cell? at hc ⊢
  cases ho : W.heap[p.block]? with
  | none => simp [ho] at hc
  | some o =>
    cases o with
    | cells c t f => rw [h.2 _ _ _ _ ho hp]; rw [ho] at hc; exact hc
    | _ => simp [ho] at hc
theorem blk_add (a : Addr) (i : Nat) : (a.add i).block = a.block := by unfold Addr.add; split <;> rfl
theorem KpS.trans {n : Nat} {S : Nat → Prop} {A B C : World} (h : KpS n S A B) (k : KpS n S B C) : KpS n S A C :=
  ⟨h.1.trans k.1, fun i c t f hi hs => k.2 i c t f (h.2 i c t f hi hs) hs⟩
theorem KpS.refl (n : Nat) (S : Nat → Prop) (W : World) : KpS n S W W := ⟨Below.refl _ _, fun _ _ _ _ h _ => h⟩
theorem KpS.put {n : Nat} {S : Nat → Prop} {w : World} (hn : n ≤ w.heap.size) (W : World) (l : Nat) (o o' : Obj) (hl : w.heap.size ≤ l) (h : W.heap[l]? = some o) (hc : o.isCells = false) (hw : o.isWalk = false) : KpS n S W (W.putObj l o') :=
  ⟨belowK_b hn W l o o' hl h hc hw, fun k c t f hk _ => by
    refine ((grownBy_putObj' W l o').block k (Array.getElem?_eq_some_iff.1 hk).1 (fun e => ?_)).trans hk
    cases e
    rw [h] at hk
    cases hk
    simp [Obj.isCells] at hc⟩
theorem KpS.of_below {n : Nat} {S : Nat → Prop} {W W' : World} (hn : n ≤ W.heap.size) (h : Below W.heap.size W W') : KpS n S W W' :=
  ⟨h.mono hn, fun k c t f hk _ => (h.block k (Array.getElem?_eq_some_iff.1 hk).1).trans hk⟩
theorem grown_of_below {W W' : World} (h : Below W.heap.size W W') : W.grownBy W' none := ⟨h.os, h.tape, h.output, h.size, fun k hk _ => h.block k hk⟩
abbrev GP := { p : Pt // GoodP p }
def encP (p : GP) : Array Value := #[.agg #[.int .i64 p.1.x, .int .i64 p.1.y, .int .i64 p.1.n, .int .i64 p.1.d]]
theorem good_pt {X Y : List Int} {V : List (List Int)} (t : Tb X Y V) {i k : Nat} {x y : Int} (sx : Spot X x i) (sy : Spot Y y k) : GoodP ⟨x, y, numAt X Y V i k x y, denAt X Y i k⟩ := by
  have q := quad_of t sx sy
  have v00 := t.val i k (by have := sx.lt; omega) (by have := sy.lt; omega)
  have v10 := t.val (i + 1) k sx.lt (by have := sy.lt; omega)
  have v01 := t.val i (k + 1) (by have := sx.lt; omega) sy.lt
  have v11 := t.val (i + 1) (k + 1) sx.lt sy.lt
  have e0 := q.e0; have e1 := q.e1; have f0 := q.f0; have f1 := q.f1
  have hd := mul_bd (a := gI X (i + 1) - gI X i) (b := gI Y (k + 1) - gI Y k) (by omega) e1 (by omega) f1
  have hd0 : 1 * 1 ≤ (gI X (i + 1) - gI X i) * (gI Y (k + 1) - gI Y k) := Int.mul_le_mul e0 f0 (by omega) (by omega)
  unfold GoodP numAt denAt
  dsimp only
  have m00 := mul_bd2 (Int.mul_nonneg q.a0 q.c0) (Int.le_refl _) v00.1 v00.2 (by decide)
  have m10 := mul_bd2 (Int.mul_nonneg q.b0 q.c0) (Int.le_refl _) v10.1 v10.2 (by decide)
  have m01 := mul_bd2 (Int.mul_nonneg q.a0 q.d0) (Int.le_refl _) v01.1 v01.2 (by decide)
  have m11 := mul_bd2 (Int.mul_nonneg q.b0 q.d0) (Int.le_refl _) v11.1 v11.2 (by decide)
  have hsum : (gI X (i + 1) - x) * (gI Y (k + 1) - y) + (x - gI X i) * (gI Y (k + 1) - y) + (gI X (i + 1) - x) * (y - gI Y k) + (x - gI X i) * (y - gI Y k) = (gI X (i + 1) - gI X i) * (gI Y (k + 1) - gI Y k) := by grind
  refine ⟨by omega, by omega, by omega, by omega⟩
open Classical in
noncomputable def fG (X Y : List Int) (V : List (List Int)) (x y : Int) : GP := if h : GoodP (ptAt X Y V x y) then ⟨_, h⟩ else ⟨⟨0, 0, 0, 1⟩, by unfold GoodP; decide⟩
theorem fG_val {X Y : List Int} {V : List (List Int)} (t : Tb X Y V) {x y : Int} (hx : onB X x x = true) (hy : onB Y y y = true) : (fG X Y V x y).1 = ptAt X Y V x y := by
  have h : GoodP (ptAt X Y V x y) := good_pt t (cell_spot t.ax hx) (cell_spot t.ay hy)
  unfold fG
  rw [dif_pos h]
noncomputable def gridG (xs ys : List Int) (f : Int → Int → GP) : List GP := xs.flatMap fun x => ys.map fun y => f x y
theorem gridG_snoc (xs ys : List Int) (f : Int → Int → GP) (i : Nat) (hi : i < xs.length) : gridG (xs.take (i + 1)) ys f = gridG (xs.take i) ys f ++ ys.map (f (gI xs i)) := by
  unfold gridG gI
  rw [List.take_succ_eq_append_getElem hi, List.flatMap_append]
  simp [List.getD_eq_getElem?_getD, List.getElem?_eq_getElem hi]
theorem map_snoc (ys : List Int) (f : Int → GP) (j : Nat) (hj : j < ys.length) : (ys.take (j + 1)).map f = (ys.take j).map f ++ [f (gI ys j)] := by
  unfold gI
  rw [List.take_succ_eq_append_getElem hj, List.map_append]
  simp only [List.getD_eq_getElem?_getD, List.getElem?_eq_getElem hj, Option.getD_some, List.map_cons, List.map_nil]
theorem stops_on {l : List Int} {lo hi : Int} (h : onB l lo hi = true) (hle : lo ≤ hi) {x : Int} (hx : x ∈ stopsL l lo hi) : onB l x x = true ∧ lo ≤ x ∧ x ≤ hi := by
  rw [onB_iff] at h ⊢
  unfold stopsL at hx
  simp only [List.cons_append, List.mem_cons, List.mem_append, List.mem_filter, Bool.and_eq_true, decide_eq_true_eq] at hx
  rcases hx with rfl | ⟨_, h1, h2⟩ | h3
  · omega
  · omega
  · by_cases hlt : lo < hi
    · rw [if_pos hlt] at h3; simp at h3; omega
    · rw [if_neg hlt] at h3; simp at h3
theorem stops_pos (l : List Int) (lo hi : Int) : 0 < (stopsL l lo hi).length := by unfold stopsL; simp
theorem stops_len {l : List Int} (h : l.length ≤ 12) (lo hi : Int) : (stopsL l lo hi).length ≤ 14 := by
  unfold stopsL
  have := List.length_filter_le (fun x => decide (lo < x) && decide (x < hi)) l
  simp only [List.length_append, List.length_cons]
  by_cases hlt : lo < hi
  · rw [if_pos hlt]; simp only [List.length_cons, List.length_nil]; omega
  · rw [if_neg hlt]; simp only [List.length_nil]; omega
theorem grid_len (xs ys : List Int) (f : Int → Int → GP) (i j : Nat) (g : Int → GP) (hi : i < xs.length) (hj : j < ys.length) : (gridG (xs.take i) ys f ++ (ys.take j).map g).length < xs.length * ys.length := by
  have h1 : ∀ l : List Int, (gridG l ys f).length = l.length * ys.length := by
    intro l
    induction l with
    | nil => simp [gridG]
    | cons a l ih =>
      rw [show gridG (a :: l) ys f = ys.map (fun y => f a y) ++ gridG l ys f from rfl, List.length_append, ih, List.length_map, List.length_cons, Nat.succ_mul, Nat.add_comm]
  rw [List.length_append, h1, List.length_map, List.length_take, List.length_take, Nat.min_eq_left (by omega), Nat.min_eq_left (by omega)]
  have h2 : (i + 1) * ys.length ≤ xs.length * ys.length := Nat.mul_le_mul_right _ hi
  rw [Nat.succ_mul] at h2
  omega
theorem grid_prefix (xs ys : List Int) (f : Int → Int → GP) (i j : Nat) (hi : i < xs.length) (hj : j < ys.length) : gridG (xs.take i) ys f ++ (ys.take j).map (f (gI xs i)) ++ [f (gI xs i) (gI ys j)] <+: gridG xs ys f := by
  rw [List.append_assoc, ← map_snoc _ _ _ hj]
  have h1 : gridG xs ys f = gridG (xs.take (i + 1)) ys f ++ gridG (xs.drop (i + 1)) ys f := by
    unfold gridG; rw [← List.flatMap_append, List.take_append_drop]
  rw [h1, gridG_snoc _ _ _ _ hi, List.append_assoc]
  have h2 : ys.map (f (gI xs i)) = (ys.take (j + 1)).map (f (gI xs i)) ++ (ys.drop (j + 1)).map (f (gI xs i)) := by rw [← List.map_append, List.take_append_drop]
  exact ⟨(ys.drop (j + 1)).map (f (gI xs i)) ++ gridG (xs.drop (i + 1)) ys f, by rw [h2]; simp only [List.append_assoc]⟩
theorem gI_mem (l : List Int) (i : Nat) (h : i < l.length) : gI l i ∈ l := getD_mem l 0 i h
set_option maxRecDepth 100000 in
set_option maxHeartbeats 4000000 in
theorem corners1_in (n : Nat) (hn : 1 ≤ n) (l tb xb yb : Nat) (S : Nat → Prop) (A0 : Option Addr) (c0 : Nat) (A1 : Option Addr) (c1 : Nat) (A2 : Option Addr) (c2 : Nat) (X Y : List Int) (V : List (List Int)) (a0 a1 b0 b1 : Int)
    (ht : tableB X Y V = true) (hxon : onB X a0 a1 = true) (hyon : onB Y b0 b1 = true) (hxle : a0 ≤ a1) (hyle : b0 ≤ b1) (w0 : World)
    (hr0 : Kd.C (Kd.int .i64) w0 A0 X.length X) (hc0 : X.length ≤ c0) (hr1 : Kd.C (Kd.int .i64) w0 A1 Y.length Y) (hc1 : Y.length ≤ c1) (hr2 : Kd.C (Kd.slice 3 (Kd.int .i64)) w0 A2 V.length V) (hc2 : V.length ≤ c2)
    (J Jx : List GP → World → Prop)
    (hY : ∀ pre x W, J pre W → pre.length < ((stopsL X a0 a1).length * (stopsL Y b0 b1).length) → YieldAt Fence.wide (n - 1) Try.prog l (encP x) W fun e W' =>
      (e = .returned (.bool true) ∧ J (pre ++ [x]) W' ∧ KpS w0.heap.size S W W') ∨ (e = .returned (.bool false) ∧ Jx (pre ++ [x]) W'))
    (W : World) (hJ : AbidesFrom W.heap.size J) (hb : Below w0.heap.size w0 W)
    (bT : W.heap[tb]? = some (.cells #[.slice A0 X.length c0, .slice A1 Y.length c1, .slice A2 V.length c2] 25 (0, 0))) (bX : W.heap[xb]? = some (.cells #[.int .i64 a0, .int .i64 a1] 27 (0, 0))) (bY : W.heap[yb]? = some (.cells #[.int .i64 b0, .int .i64 b1] 27 (0, 0)))
    (sT : ¬ S tb) (sX : ¬ S xb) (sY : ¬ S yb) (hS : ∀ k, S k → k < W.heap.size) (hJ0 : J [] W) :
    CallsIn Fence.wide n Try.prog 170 #[.func (.yield l) #[] #[], .pointer (some ⟨tb, 0, none⟩), .pointer (some ⟨xb, 0, none⟩), .pointer (some ⟨yb, 0, none⟩)] W fun e W' => (∃ v, e = .returned v) ∧
      ((∃ ys, ys = gridG (stopsL X a0 a1) (stopsL Y b0 b1) (fG X Y V) ∧ J ys W') ∨ (∃ pre, pre <+: gridG (stopsL X a0 a1) (stopsL Y b0 b1) (fG X Y V) ∧ Jx pre W')) := by
  have t := tb_of ht
  have HTB := Aside0.mk ht
  clear ht
  have hsx := stops_total X t.ax.most a0 a1 13 (by omega)
  have hsy := stops_total Y t.ay.most b0 b1 13 (by omega)
  have HSX := Aside0.mk hsx
  have HSY := Aside0.mk hsy
  clear hsx hsy
  have HR0 := Aside0.mk hr0
  have HR1 := Aside0.mk hr1
  have HR2 := Aside0.mk hr2
  have HB := Aside0.mk hb
  have HT := Aside0.mk bT
  have HX := Aside0.mk bX
  have HYb := Aside0.mk bY
  have tx := (blk_cell bT 0).trans rfl
  have xx0 := (blk_cell bX 0).trans rfl
  have xx1 := (blk_cell bX 1).trans rfl
  clear hr0 hr1 hr2 hb bT bX bY
  refine callsIn_of_wp Try.func170 rfl trivial ?_ rfl
  simp only [Try.ntmps170, List.size_toArray, List.length_cons, List.length_nil, Nat.reduceAdd, Nat.reduceSub, Array.replicate_succ, Array.replicate_zero, List.push_toArray, List.append_toArray, List.nil_append, List.cons_append]
  gi_wp2_with (refine ⟨trivial, ?_⟩; gi_at_call 171; refine (callsIn_wide.2 (spans_stops.calls 13 A0 c0 X a0 a1 _ _ (Kd.C_below HR0.out HB.out) hc0 HSX.out)).mono ?_; rintro e w' ⟨v0, rfl, hR, hbs⟩; obtain ⟨A, c, rfl, hlc, hC⟩ := Kd.R_reads hR)
  have hads : ∀ ad, A = some ad → W.heap.size ≤ ad.block := by
    rintro ad rfl
    obtain ⟨_, inner, ho, _⟩ := hR
    rcases ho.2 with ⟨h, _⟩ | ⟨g, cap, cur, h, hg, _⟩
    · cases h
    · cases h; exact hg
  obtain ⟨adx, rfl, hxs⟩ := cell_int hC (stops_pos _ _ _)
  have hadx := hads adx rfl
  clear hads hR hC
  have HXS := Aside0.mk hxs
  have HAX := Aside0.mk hadx
  have HJ1 := Aside0.mk (hJ [] W w' none hJ0 (grown_of_below hbs) (by simp))
  have HBS := Aside0.mk hbs
  have HJ := Aside0.mk hJ
  have HY := Aside0.mk hY
  clear hxs hadx hbs hJ hY hJ0 tx xx0 xx1
  have hnx := stops_pos X a0 a1
  gi_loopw [14] (fun v14 wr => ∃ i : Nat, v14 = .int .i64 i ∧ Aside0 (i ≤ (stopsL X a0 a1).length) ∧ Aside0 (J (gridG ((stopsL X a0 a1).take i) (stopsL Y b0 b1) (fG X Y V)) wr) ∧ Aside0 (KpS w0.heap.size S w' wr))
    (fun v14 _ => (stopsL X a0 a1).length - (intOf v14).toNat)
  case atStart => exact ⟨0, rfl, ⟨Nat.zero_le _⟩, ⟨by simpa [gridG] using HJ1.out⟩, ⟨KpS.refl _ _ _⟩⟩
  case round =>
    obtain ⟨i, rfl, HI, HJi, HK⟩ := hrel
    have hlx : (stopsL X a0 a1).length ≤ 14 := stops_len t.ax.most a0 a1
    have hly : (stopsL Y b0 b1).length ≤ 14 := stops_len t.ay.most b0 b1
    have HBr := Aside0.mk ((HB.out.trans (HBS.out.mono HB.out.size)).trans HK.out.1)
    have HTr := Aside0.mk (HK.out.2 _ _ _ _ (blk_below HT.out HBS.out) sT)
    have HXr := Aside0.mk (HK.out.2 _ _ _ _ (blk_below HX.out HBS.out) sX)
    have HYr := Aside0.mk (HK.out.2 _ _ _ _ (blk_below HYb.out HBS.out) sY)
    by_cases hlt : i < (stopsL X a0 a1).length
    · have q0 := HK.out.cell (HXS.out i hlt) (fun hs => absurd (hS _ hs) (by rw [blk_add]; have := HAX.out; omega))
      have ty := (blk_cell HTr.out 1).trans rfl
      have y0 := (blk_cell HYr.out 0).trans rfl
      have y1 := (blk_cell HYr.out 1).trans rfl
      gi_wp2_with (refine ⟨trivial, ?_⟩; gi_at_call 171; refine (callsIn_wide.2 (spans_stops.calls 13 A1 c1 Y b0 b1 _ _ (Kd.C_below HR1.out HBr.out) hc1 HSY.out)).mono ?_; rintro e w2 ⟨v0, rfl, hR, hbs⟩; obtain ⟨A, c, rfl, hlc, hC⟩ := Kd.R_reads hR)
      have hads : ∀ ad, A = some ad → wr.heap.size ≤ ad.block := by
        rintro ad rfl
        obtain ⟨_, inner, ho, _⟩ := hR
        rcases ho.2 with ⟨h, _⟩ | ⟨g, cap, cur, h, hg, _⟩
        · cases h
        · cases h; exact hg
      obtain ⟨ady, rfl, hys⟩ := cell_int hC (stops_pos _ _ _)
      have hady := hads ady rfl
      clear hads hR hC q0 ty y0 y1
      have HYS := Aside0.mk hys
      have HAY := Aside0.mk hady
      have HSz := Aside0.mk (show W.heap.size ≤ wr.heap.size from Nat.le_trans HBS.out.size HK.out.1.size)
      have HJ2 := Aside0.mk (HJ.out _ _ _ none HJi.out (grown_of_below hbs) (by simp))
      have HBS2 := Aside0.mk hbs
      have HB2 := Aside0.mk (HBr.out.trans (hbs.mono HBr.out.size))
      have HT2 := Aside0.mk (blk_below HTr.out hbs)
      have hon := stops_on hxon hxle (gI_mem _ _ hlt)
      have HON := Aside0.mk hon.1
      clear hys hady hbs hon HTr HXr HYr
      gi_loopw [23] (fun v23 ws => ∃ j : Nat, v23 = .int .i64 j ∧ Aside0 (j ≤ (stopsL Y b0 b1).length) ∧ Aside0 (J (gridG ((stopsL X a0 a1).take i) (stopsL Y b0 b1) (fG X Y V) ++ ((stopsL Y b0 b1).take j).map (fG X Y V (gI (stopsL X a0 a1) i))) ws) ∧ Aside0 (KpS w0.heap.size S w2 ws))
        (fun v23 _ => (stopsL Y b0 b1).length - (intOf v23).toNat)
      case atStart => exact ⟨0, rfl, ⟨Nat.zero_le _⟩, ⟨by simpa using HJ2.out⟩, ⟨KpS.refl _ _ _⟩⟩
      case round =>
        obtain ⟨j, rfl, HJj, HJs, HK2⟩ := hrel
        have HBs := Aside0.mk (HB2.out.trans HK2.out.1)
        by_cases hltj : j < (stopsL Y b0 b1).length
        · have q1 := HK2.out.cell (HYS.out j hltj) (fun hs => absurd (hS _ hs) (by rw [blk_add]; have := HAY.out; have := HSz.out; omega))
          have HTs := Aside0.mk (HK2.out.2 _ _ _ _ HT2.out sT)
          have t0 := (blk_cell HTs.out 0).trans rfl
          have t1 := (blk_cell HTs.out 1).trans rfl
          have t2 := (blk_cell HTs.out 2).trans rfl
          have hony := (stops_on hyon hyle (gI_mem _ _ hltj)).1
          have HAT : Aside0 (spans_at.f X Y V (gI (stopsL X a0 a1) i) (gI (stopsL Y b0 b1) j) = some ((ptAt X Y V (gI (stopsL X a0 a1) i) (gI (stopsL Y b0 b1) j)).n, (ptAt X Y V (gI (stopsL X a0 a1) i) (gI (stopsL Y b0 b1) j)).d)) := ⟨by unfold spans_at.f; rw [HTB.out, HON.out, hony]; rfl⟩
          have HE : Aside0 (encP (fG X Y V (gI (stopsL X a0 a1) i) (gI (stopsL Y b0 b1) j)) = #[.agg #[.int .i64 (gI (stopsL X a0 a1) i), .int .i64 (gI (stopsL Y b0 b1) j), .int .i64 (ptAt X Y V (gI (stopsL X a0 a1) i) (gI (stopsL Y b0 b1) j)).n, .int .i64 (ptAt X Y V (gI (stopsL X a0 a1) i) (gI (stopsL Y b0 b1) j)).d]]) := ⟨by unfold encP; rw [fG_val t HON.out hony]; rfl⟩
          have HLen : Aside0 ((gridG ((stopsL X a0 a1).take i) (stopsL Y b0 b1) (fG X Y V) ++ ((stopsL Y b0 b1).take j).map (fG X Y V (gI (stopsL X a0 a1) i))).length < (stopsL X a0 a1).length * (stopsL Y b0 b1).length) := ⟨grid_len _ _ _ i j _ hlt hltj⟩
          clear hony
          gi_wp2_with (refine ⟨trivial, ?_⟩; gi_at_call 105; refine (callsIn_wide.2 (spans_at.calls A0 c0 X A1 c1 Y A2 c2 V _ _ _ _ _ (Kd.C_below HR0.out HBs.out) hc0 (Kd.C_below HR1.out HBs.out) hc1 (Kd.C_below HR2.out HBs.out) hc2 HAT.out)).mono ?_; rintro e w3 ⟨rfl, hb3⟩; obtain ⟨fn, tmps, assign, body, hy, hR⟩ := HY.out _ (fG X Y V (gI (stopsL X a0 a1) i) (gI (stopsL Y b0 b1) j)) w3 (HJ.out _ _ _ none HJs.out (grown_of_below hb3) (by simp)) HLen.out; rw [HE.out] at hy; have HR' := Aside0.mk hR; have HB3 := Aside0.mk hb3; clear hR hb3)
          refine HR'.out.mono ?_
          rintro e w4 (⟨rfl, hJ4, hk4⟩ | ⟨rfl, hJx4⟩)
          · have HJ4 := Aside0.mk hJ4
            have HK4 := Aside0.mk hk4
            clear hJ4 hk4
            gi_wp2
            go_roundw
            case rel => exact ⟨j + 1, by go_num, ⟨by omega⟩, ⟨by rw [map_snoc _ _ _ hltj, ← List.append_assoc]; exact HJ4.out⟩, ⟨HK2.out.trans ((KpS.of_below (by have := HBs.out.size; omega) HB3.out).trans HK4.out)⟩⟩
            case measure => simp [intOf]; omega
          · have HJ4 := Aside0.mk hJx4
            clear hJx4
            gi_wp2
            refine bodyPost_ret (results_none rfl _ _ _) rfl ?_
            exact ⟨⟨_, rfl⟩, .inr ⟨_, grid_prefix _ _ _ i j hlt hltj, HJ4.out⟩⟩
        · gi_wp2
          go_roundw
          case rel => exact ⟨i + 1, by go_num, ⟨by omega⟩, ⟨by rw [gridG_snoc _ _ _ _ hlt]; have h5 := HJs.out; rw [List.take_of_length_le (l := stopsL Y b0 b1) (i := j) (by omega)] at h5; exact h5⟩, ⟨HK.out.trans ((KpS.of_below (by have := HBr.out.size; omega) HBS2.out).trans HK2.out)⟩⟩
          case measure => simp [intOf]; omega
    · gi_wp2
      go_end0
      exact ⟨⟨_, rfl⟩, .inl ⟨_, by rw [List.take_of_length_le (by omega)], HJi.out⟩⟩
end Go.Proofs.Yteodlmgmmpkpoaa.PS
end
section
namespace Go.Proofs.Yteodlmgmmpkpoaa.PS
open Go.RowKit Go.Shelf Go.Proofs.YteodlmgmmpkpoaaW.PrintWords Go.Proofs.YteodlmgmmpkpoaaW.PrintLast Go.Proofs.YteodlmgmmpkpoaaW.PrintMore
set_option linter.unusedVariables false
set_option linter.unusedSimpArgs false
attribute [local go_sem] Oper.semAt_some
theorem corners_in (n : Nat) (A0 : Option Addr) (n0 c0 : Nat) (A1 : Option Addr) (n1 c1 : Nat) (A2 : Option Addr) (n2 c2 : Nat) (a0 a1 b0 b1 : Int) (w : World) :
    CallsIn Fence.wide n Try.prog 118 #[.agg #[.slice A0 n0 c0, .slice A1 n1 c1, .slice A2 n2 c2], .agg #[.int .i64 a0, .int .i64 a1], .agg #[.int .i64 b0, .int .i64 b1]] w fun e w' =>
      e = .returned (.func (.func 170) #[] #[.pointer (some ⟨w.heap.size, 0, none⟩), .pointer (some ⟨w.heap.size + 1, 0, none⟩), .pointer (some ⟨w.heap.size + 1 + 1, 0, none⟩)]) ∧
      w' = ((w.alloc (.cells #[.slice A0 n0 c0, .slice A1 n1 c1, .slice A2 n2 c2] 25)).alloc (.cells #[.int .i64 a0, .int .i64 a1] 27)).alloc (.cells #[.int .i64 b0, .int .i64 b1] 27) := by
  refine callsIn_of_wp Try.func118 rfl trivial ?_ rfl
  simp only [Try.ntmps118, List.size_toArray, List.length_cons, List.length_nil, Nat.reduceAdd, Nat.reduceSub, Array.replicate_succ, Array.replicate_zero, List.push_toArray, List.append_toArray, List.nil_append, List.cons_append]
  gi_wp2
  go_ret
  exact ⟨rfl, rfl⟩
def vals (pre : List GP) : List Pt := pre.map fun p => p.1
def cellsP (p : Pt) : Array Value := #[.int .i64 p.x, .int .i64 p.y, .int .i64 p.n, .int .i64 p.d]
def ExtI (b6 b7 b8 : Nat) (pre : List GP) (W : World) : Prop :=
  W.heap[b6]? = some (.cells (cellsP (leastP (vals pre))) 133 (0, 0)) ∧ W.heap[b7]? = some (.cells (cellsP (mostP (vals pre))) 133 (0, 0)) ∧ W.heap[b8]? = some (.cells #[.bool (!pre.isEmpty)] 4 (0, 0))
def put4 (W : World) (b : Nat) (L : Pt) : World := (((W.setCell ⟨b, 0, none⟩ (.int .i64 L.x)).setCell ⟨b, 1, none⟩ (.int .i64 L.y)).setCell ⟨b, 2, none⟩ (.int .i64 L.n)).setCell ⟨b, 3, none⟩ (.int .i64 L.d)
theorem put4_same {W : World} {b : Nat} {Q : Pt} (L : Pt) (h : W.heap[b]? = some (.cells (cellsP Q) 133 (0, 0))) : (put4 W b L).heap[b]? = some (.cells (cellsP L) 133 (0, 0)) :=
  blk_put (blk_put (blk_put (blk_put h 0 _ rfl) 1 _ rfl) 2 _ rfl) 3 _ rfl
theorem put4_far {W : World} {b g : Nat} {t : TypeId} {cs : Array Value} (L : Pt) (h : W.heap[g]? = some (.cells cs t (0, 0))) (hg : g ≠ b) : (put4 W b L).heap[g]? = some (.cells cs t (0, 0)) :=
  blk_far (blk_far (blk_far (blk_far h hg _) hg _) hg _) hg _
theorem put4_keeps (W : World) (b : Nat) (L : Pt) : KeepsOthers W (put4 W b L) :=
  (((KeepsOthers.setCell _ _ _).trans (KeepsOthers.setCell _ _ _)).trans (KeepsOthers.setCell _ _ _)).trans (KeepsOthers.setCell _ _ _)
theorem put4_below {w W : World} {b : Nat} (L : Pt) (h : Below w.heap.size w W) (hb : w.heap.size ≤ b) : Below w.heap.size w (put4 W b L) :=
  below_set (below_set (below_set (below_set h hb) hb) hb) hb
theorem put4_kp {n : Nat} {S : Nat → Prop} {W0 W : World} {b : Nat} (L : Pt) (h : KpS n S W0 W) (hn : n ≤ b) (hS : S b) : KpS n S W0 (put4 W b L) :=
  ⟨(((h.1.setCell hn _).setCell hn _).setCell hn _).setCell hn _, fun k c t f hk hs => by
    have hkb : k ≠ b := fun e => hs (e ▸ hS)
    have := h.2 k c t f hk hs
    unfold put4
    rw [Below.heap_setCell _ _ _ _ hkb, Below.heap_setCell _ _ _ _ hkb, Below.heap_setCell _ _ _ _ hkb, Below.heap_setCell _ _ _ _ hkb]
    exact this⟩
theorem kothers_below {W W' : World} (h : Below W.heap.size W W') : KeepsOthers W W' := KeepsOthers.of_grownBy (grown_of_below h) (fun _ _ e => by cases e)
theorem KpS.put8 {n : Nat} {S : Nat → Prop} {W0 W : World} {b : Nat} {v : Value} (h : KpS n S W0 W) (hn : n ≤ b) (hS : S b) : KpS n S W0 (W.setCell ⟨b, 0, none⟩ v) :=
  ⟨h.1.setCell hn _, fun k c t f hk hs => (Below.heap_setCell _ _ _ _ (fun e : k = b => hs (e ▸ hS))).trans (h.2 k c t f hk hs)⟩
theorem cells_own {β : Type} (b : Nat) (t : TypeId) (f : β → Array Value) : Own (fun s W => W.heap[b]? = some (.cells (f s) t (0, 0))) := fun s X Y row hs hg hrow =>
  blk_grown hs hg (fun e => by obtain ⟨o, ho, hc⟩ := hrow b e.symm; rw [hs] at ho; cases ho; cases hc)
theorem least_snoc (pre : List GP) (x : GP) (h : pre ≠ []) : leastP (vals (pre ++ [x])) = if ltP x.1 (leastP (vals pre)) then x.1 else leastP (vals pre) := by
  cases pre with
  | nil => exact absurd rfl h
  | cons a l => simp [vals, leastP]
theorem most_snoc (pre : List GP) (x : GP) (h : pre ≠ []) : mostP (vals (pre ++ [x])) = if ltP (mostP (vals pre)) x.1 then x.1 else mostP (vals pre) := by
  cases pre with
  | nil => exact absurd rfl h
  | cons a l => simp [vals, mostP]
theorem fold_good (l : List GP) (f : Pt → Pt → Bool) : ∀ a, GoodP a → GoodP ((vals l).foldl (fun m q => if f m q then q else m) a) := by
  induction l with
  | nil => intro a h; exact h
  | cons b l ih =>
    intro a h
    refine ih _ ?_
    dsimp only
    by_cases hf : f a b.1 = true
    · rw [if_pos hf]; exact b.2
    · rw [if_neg hf]; exact h
theorem least_good (pre : List GP) (h : pre ≠ []) : GoodP (leastP (vals pre)) := by
  cases pre with
  | nil => exact absurd rfl h
  | cons a l => exact fold_good l (fun m q => ltP q m) a.1 a.2
theorem most_good (pre : List GP) (h : pre ≠ []) : GoodP (mostP (vals pre)) := by
  cases pre with
  | nil => exact absurd rfl h
  | cons a l => exact fold_good l (fun m q => ltP m q) a.1 a.2
set_option maxRecDepth 100000 in
set_option maxHeartbeats 1000000 in
theorem extremes_in (n : Nat) (hn : 6 ≤ n) (A0 : Option Addr) (c0 : Nat) (A1 : Option Addr) (c1 : Nat) (A2 : Option Addr) (c2 : Nat) (X Y : List Int) (V : List (List Int)) (a0 a1 b0 b1 : Int)
    (ht : tableB X Y V = true) (hxon : onB X a0 a1 = true) (hyon : onB Y b0 b1 = true) (hxle : a0 ≤ a1) (hyle : b0 ≤ b1) (w : World)
    (hr0 : Kd.C (Kd.int .i64) w A0 X.length X) (hc0 : X.length ≤ c0) (hr1 : Kd.C (Kd.int .i64) w A1 Y.length Y) (hc1 : Y.length ≤ c1) (hr2 : Kd.C (Kd.slice 3 (Kd.int .i64)) w A2 V.length V) (hc2 : V.length ≤ c2) :
    CallsIn Fence.wide n Try.prog 89 #[.agg #[.slice A0 X.length c0, .slice A1 Y.length c1, .slice A2 V.length c2], .agg #[.int .i64 a0, .int .i64 a1], .agg #[.int .i64 b0, .int .i64 b1]] w fun e w' =>
      e = .returned (.tuple #[.agg (cellsP (leastP (vals (gridG (stopsL X a0 a1) (stopsL Y b0 b1) (fG X Y V))))), .agg (cellsP (mostP (vals (gridG (stopsL X a0 a1) (stopsL Y b0 b1) (fG X Y V)))))]) ∧ Below w.heap.size w w' := by
  have h1 : 1 ≤ n := by omega
  have HR0 := Aside0.mk hr0
  have HR1 := Aside0.mk hr1
  have HR2 := Aside0.mk hr2
  clear hr0 hr1 hr2
  refine callsIn_of_wp_marks Try.func89 rfl trivial ?_ rfl
  simp only [Try.ntmps89, List.size_toArray, List.length_cons, List.length_nil, Nat.reduceAdd, Nat.reduceSub, Array.replicate_succ, Array.replicate_zero, List.push_toArray, List.append_toArray, List.nil_append, List.cons_append]
  gi_wp2_with (refine ⟨trivial, ?_⟩; gi_at_call 118; refine (corners_in (n - 1) _ _ _ _ _ _ _ _ _ _ _ _ _ _).mono ?_; rintro e w' ⟨rfl, rfl⟩)
  have hb : Below w.heap.size w (((((((((w.alloc (.cells #[.slice A0 X.length c0, .slice A1 Y.length c1, .slice A2 V.length c2] 25)).alloc (.cells #[.int .i64 a0, .int .i64 a1] 27)).alloc (.cells #[.int .i64 b0, .int .i64 b1] 27)).alloc (.cells #[.int .i64 0, .int .i64 0, .int .i64 0, .int .i64 0] 133)).alloc (.cells #[.int .i64 0, .int .i64 0, .int .i64 0, .int .i64 0] 133)).alloc (.cells #[.bool false] 4)).alloc (.cells #[.slice A0 X.length c0, .slice A1 Y.length c1, .slice A2 V.length c2] 25)).alloc (.cells #[.int .i64 a0, .int .i64 a1] 27)).alloc (.cells #[.int .i64 b0, .int .i64 b1] 27)) := by
    repeat (first | exact Below.refl _ _ | apply below_alloc)
  obtain ⟨W3, hW3⟩ : ∃ W3, ((w.alloc (.cells #[.slice A0 X.length c0, .slice A1 Y.length c1, .slice A2 V.length c2] 25)).alloc (.cells #[.int .i64 a0, .int .i64 a1] 27)).alloc (.cells #[.int .i64 b0, .int .i64 b1] 27) = W3 := ⟨_, rfl⟩
  have hz3 : W3.heap.size = w.heap.size + 3 := by rw [← hW3]; simp
  have k6 := blk_new W3 (.cells #[.int .i64 0, .int .i64 0, .int .i64 0, .int .i64 0] 133)
  have k7 := blk_new (W3.alloc (.cells #[.int .i64 0, .int .i64 0, .int .i64 0, .int .i64 0] 133)) (.cells #[.int .i64 0, .int .i64 0, .int .i64 0, .int .i64 0] 133)
  have k8 := blk_new ((W3.alloc (.cells #[.int .i64 0, .int .i64 0, .int .i64 0, .int .i64 0] 133)).alloc (.cells #[.int .i64 0, .int .i64 0, .int .i64 0, .int .i64 0] 133)) (.cells #[.bool false] 4)
  rw [hW3] at hb ⊢
  obtain ⟨W6, hW6⟩ : ∃ W6, ((W3.alloc (.cells #[.int .i64 0, .int .i64 0, .int .i64 0, .int .i64 0] 133)).alloc (.cells #[.int .i64 0, .int .i64 0, .int .i64 0, .int .i64 0] 133)).alloc (.cells #[.bool false] 4) = W6 := ⟨_, rfl⟩
  have hz6 : W6.heap.size = w.heap.size + 6 := by rw [← hW6]; simp [hz3]
  replace k6 : W6.heap[w.heap.size + 1 + 1 + 1]? = some (.cells #[.int .i64 0, .int .i64 0, .int .i64 0, .int .i64 0] 133 (0, 0)) := by rw [← hW6]; have := blk_alloc (blk_alloc k6 (.cells #[.int .i64 0, .int .i64 0, .int .i64 0, .int .i64 0] 133)) (.cells #[.bool false] 4); rwa [hz3] at this
  replace k7 : W6.heap[w.heap.size + 1 + 1 + 1 + 1]? = some (.cells #[.int .i64 0, .int .i64 0, .int .i64 0, .int .i64 0] 133 (0, 0)) := by rw [← hW6]; have := blk_alloc k7 (.cells #[.bool false] 4); rwa [World.size_alloc, hz3] at this
  replace k8 : W6.heap[w.heap.size + 1 + 1 + 1 + 1 + 1]? = some (.cells #[.bool false] 4 (0, 0)) := by rw [← hW6]; have := k8; rwa [World.size_alloc, World.size_alloc, hz3] at this
  rw [hW6] at hb ⊢
  have kT := blk_new W6 (.cells #[.slice A0 X.length c0, .slice A1 Y.length c1, .slice A2 V.length c2] 25)
  have kX := blk_new (W6.alloc (.cells #[.slice A0 X.length c0, .slice A1 Y.length c1, .slice A2 V.length c2] 25)) (.cells #[.int .i64 a0, .int .i64 a1] 27)
  have kY := blk_new ((W6.alloc (.cells #[.slice A0 X.length c0, .slice A1 Y.length c1, .slice A2 V.length c2] 25)).alloc (.cells #[.int .i64 a0, .int .i64 a1] 27)) (.cells #[.int .i64 b0, .int .i64 b1] 27)
  obtain ⟨W0, hW0⟩ : ∃ W0, ((W6.alloc (.cells #[.slice A0 X.length c0, .slice A1 Y.length c1, .slice A2 V.length c2] 25)).alloc (.cells #[.int .i64 a0, .int .i64 a1] 27)).alloc (.cells #[.int .i64 b0, .int .i64 b1] 27) = W0 := ⟨_, rfl⟩
  have hz0 : W0.heap.size = w.heap.size + 9 := by rw [← hW0]; simp [hz6]
  replace k6 : W0.heap[w.heap.size + 1 + 1 + 1]? = some (.cells #[.int .i64 0, .int .i64 0, .int .i64 0, .int .i64 0] 133 (0, 0)) := by rw [← hW0]; exact blk_alloc (blk_alloc (blk_alloc k6 _) _) _
  replace k7 : W0.heap[w.heap.size + 1 + 1 + 1 + 1]? = some (.cells #[.int .i64 0, .int .i64 0, .int .i64 0, .int .i64 0] 133 (0, 0)) := by rw [← hW0]; exact blk_alloc (blk_alloc (blk_alloc k7 _) _) _
  replace k8 : W0.heap[w.heap.size + 1 + 1 + 1 + 1 + 1]? = some (.cells #[.bool false] 4 (0, 0)) := by rw [← hW0]; exact blk_alloc (blk_alloc (blk_alloc k8 _) _) _
  replace kT : W0.heap[w.heap.size + 1 + 1 + 1 + 1 + 1 + 1]? = some (.cells #[.slice A0 X.length c0, .slice A1 Y.length c1, .slice A2 V.length c2] 25 (0, 0)) := by rw [← hW0]; have := blk_alloc (blk_alloc kT (.cells #[.int .i64 a0, .int .i64 a1] 27)) (.cells #[.int .i64 b0, .int .i64 b1] 27); rwa [hz6] at this
  replace kX : W0.heap[w.heap.size + 1 + 1 + 1 + 1 + 1 + 1 + 1]? = some (.cells #[.int .i64 a0, .int .i64 a1] 27 (0, 0)) := by rw [← hW0]; have := blk_alloc kX (.cells #[.int .i64 b0, .int .i64 b1] 27); rwa [World.size_alloc, hz6] at this
  replace kY : W0.heap[w.heap.size + 1 + 1 + 1 + 1 + 1 + 1 + 1 + 1]? = some (.cells #[.int .i64 b0, .int .i64 b1] 27 (0, 0)) := by rw [← hW0]; have := kY; rwa [World.size_alloc, World.size_alloc, hz6] at this
  rw [hW0] at hb ⊢
  clear hW0 hW3 hW6 hz3 hz6
  obtain ⟨s1, e1⟩ : ∃ k, w.heap.size + 1 = k := ⟨_, rfl⟩
  obtain ⟨s2, e2⟩ : ∃ k, s1 + 1 = k := ⟨_, rfl⟩
  obtain ⟨b6, e6⟩ : ∃ k, s2 + 1 = k := ⟨_, rfl⟩
  obtain ⟨b7, e7⟩ : ∃ k, b6 + 1 = k := ⟨_, rfl⟩
  obtain ⟨b8, e8⟩ : ∃ k, b7 + 1 = k := ⟨_, rfl⟩
  obtain ⟨tb, et⟩ : ∃ k, b8 + 1 = k := ⟨_, rfl⟩
  obtain ⟨xb, ex⟩ : ∃ k, tb + 1 = k := ⟨_, rfl⟩
  obtain ⟨yb, ey⟩ : ∃ k, xb + 1 = k := ⟨_, rfl⟩
  simp only [e1, e2, e6, e7, e8, et, ex, ey] at k6 k7 k8 kT kX kY ⊢
  have hord : w.heap.size < b6 ∧ b6 < b7 ∧ b7 < b8 ∧ b8 < tb ∧ tb < xb ∧ xb < yb ∧ yb < W0.heap.size := by omega
  have HO := Aside0.mk hord
  have HK6 := Aside0.mk k6
  have HK7 := Aside0.mk k7
  have HK8 := Aside0.mk k8
  have HKT := Aside0.mk kT
  have HKX := Aside0.mk kX
  have HKY := Aside0.mk kY
  have HB := Aside0.mk hb
  clear e1 e2 e6 e7 e8 et ex ey hz0 hord k6 k7 k8 kT kX kY hb
  refine wpIn_rangeFunc_ownH (F := Fence.wide) rfl h1 (gf := 170) (lb := #[.pointer (some ⟨tb, 0, none⟩), .pointer (some ⟨xb, 0, none⟩), .pointer (some ⟨yb, 0, none⟩)]) rfl trivial (enters_of Try.func170 (by kernel_rfl) rfl)
    (encs := encP) (Kp := KpS w.heap.size (fun k => k = b6 ∨ k = b7 ∨ k = b8)) (S := fun ys => ys = gridG (stopsL X a0 a1) (stopsL Y b0 b1) (fG X Y V)) (Sp := fun pre => pre <+: gridG (stopsL X a0 a1) (stopsL Y b0 b1) (fG X Y V)) (N := (stopsL X a0 a1).length * (stopsL Y b0 b1).length) (w0 := W0)
    (fun l J Jx W hW hJ hJx hY hJ0 => corners1_in (n - 1) (by omega) l tb xb yb _ A0 c0 A1 c1 A2 c2 X Y V a0 a1 b0 b1 ht hxon hyon hxle hyle w HR0.out hc0 HR1.out hc1 HR2.out hc2 J Jx hY W hJ (HB.out.trans (hW.mono HB.out.size)) (blk_below HKT.out hW) (blk_below HKX.out hW) (blk_below HKY.out hW)
      (by have := HO.out; omega) (by have := HO.out; omega) (by have := HO.out; omega) (fun k hk => by have := HO.out; have := hW.size; omega) hJ0)
    KpS.trans (KpS.put HB.out.size) (Below.refl _ _) (fun _ => rfl)
    (fun pre W => ExtI b6 b7 b8 pre W ∧ Below w.heap.size w W) (fun _ _ _ => False)
    (OwnFrom.and (Own.from (fun s A B row hs hg hr => ⟨cells_own b6 133 (fun pre => cellsP (leastP (vals pre))) s A B row hs.1 hg hr, cells_own b7 133 (fun pre => cellsP (mostP (vals pre))) s A B row hs.2.1 hg hr, cells_own b8 4 (fun pre => #[.bool (!pre.isEmpty)]) s A B row hs.2.2 hg hr⟩) _) (ownFrom_below (Nat.le_refl _) HB.out.size))
    (fun _ _ _ _ _ hs _ _ => hs)
    ⟨⟨HK6.out, HK7.out, HK8.out⟩, HB.out⟩
    (fun x a' W => ∃ Bx, b8 < Bx ∧ W.heap[Bx]? = some (.cells (cellsP x.1) 133 (0, 0)) ∧ a' = { tmps := #[.agg #[.slice A0 X.length c0, .slice A1 Y.length c1, .slice A2 V.length c2], .agg #[.int .i64 a0, .int .i64 a1], .agg #[.int .i64 b0, .int .i64 b1], .pointer (some ⟨w.heap.size, 0, none⟩), .pointer (some ⟨s1, 0, none⟩), .pointer (some ⟨s2, 0, none⟩), .pointer (some ⟨b6, 0, none⟩), .pointer (some ⟨b7, 0, none⟩), .pointer (some ⟨b8, 0, none⟩), .pointer (some ⟨Bx, 0, none⟩), .agg #[.slice A0 X.length c0, .slice A1 Y.length c1, .slice A2 V.length c2], .agg #[.int .i64 a0, .int .i64 a1], .agg #[.int .i64 b0, .int .i64 b1], .func (.func 170) #[] #[.pointer (some ⟨tb, 0, none⟩), .pointer (some ⟨xb, 0, none⟩), .pointer (some ⟨yb, 0, none⟩)], .agg #[.int .i64 x.1.x, .int .i64 x.1.y, .int .i64 x.1.n, .int .i64 x.1.d], undef, undef, undef, undef, undef, undef, undef, undef, undef, undef, undef, undef, undef, undef, undef, undef, undef, undef, undef, undef, undef, undef, undef, undef], defers := [] })
    (fun x a' _ A B row hs hg hr => by obtain ⟨Bx, h1, h2, h3⟩ := hs; exact ⟨Bx, h1, cells_own Bx 133 (fun (_ : Unit) => cellsP x.1) () A B row h2 hg (fun r e => (hr r e).2), h3⟩)
    ?assign ?body ?done ?stop
  case assign =>
    rintro l pre x W K ⟨hI, hBl⟩ hK
    have HI := Aside0.mk hI
    have HBl := Aside0.mk hBl
    have hlt8 : b8 < W.heap.size := blk_lt hI.2.2
    clear hI hBl
    dsimp only [encP]
    gi_wp2
    exact hK _ _ ((KeepsOthers.alloc _ _).from _) (KpS.of_below HBl.out.size ((Below.refl _ _).alloc (Nat.le_refl _) _)) ⟨⟨blk_alloc HI.out.1 _, blk_alloc HI.out.2.1 _, blk_alloc HI.out.2.2 _⟩, below_alloc HBl.out _⟩ ⟨W.heap.size, hlt8, blk_new _ _, rfl⟩
  case body =>
    rintro l pre x a' W hl ⟨r, hr⟩ ⟨⟨hL, hM, h8⟩, hBl⟩ ⟨Bx, hBx, hP, rfl⟩ hlt
    have hcmp : pre ≠ [] → ∃ c c', spans_value_compare.f 3 x.1.n x.1.d (leastP (vals pre)).n (leastP (vals pre)).d = some c ∧ (c < 0 ↔ ltP x.1 (leastP (vals pre)) = true) ∧ spans_value_compare.f 3 x.1.n x.1.d (mostP (vals pre)).n (mostP (vals pre)).d = some c' ∧ (c' > 0 ↔ ltP (mostP (vals pre)) x.1 = true) := by
      intro he
      obtain ⟨c, hc1, hc2, _⟩ := compare_total x.2 (least_good pre he) 3 (Nat.le_refl _)
      obtain ⟨c', hd1, _, hd2⟩ := compare_total x.2 (most_good pre he) 3 (Nat.le_refl _)
      exact ⟨c, c', hc1, by rw [hc2]; simp [ltP], hd1, by rw [hd2]; simp [ltP]⟩
    have hls := least_snoc pre x
    have hms := most_snoc pre x
    obtain ⟨L, hLe⟩ : ∃ L, leastP (vals pre) = L := ⟨_, rfl⟩
    obtain ⟨M, hMe⟩ : ∃ M, mostP (vals pre) = M := ⟨_, rfl⟩
    rw [hLe] at hL hls hcmp
    rw [hMe] at hM hms hcmp
    have HCMP := Aside0.mk hcmp
    have HLS := Aside0.mk hls
    have HMS := Aside0.mk hms
    have HP := Aside0.mk hP
    have HL := Aside0.mk hL
    have HM := Aside0.mk hM
    have H8 := Aside0.mk h8
    have HBl := Aside0.mk hBl
    have HR := Aside0.mk hr
    have HHL := Aside0.mk hl
    have cx0 : W.cell? ⟨Bx, 0, none⟩ = some (.int .i64 x.1.x) := (blk_cell hP 0).trans rfl
    have cx1 : W.cell? ⟨Bx, 1, none⟩ = some (.int .i64 x.1.y) := (blk_cell hP 1).trans rfl
    have cx2 : W.cell? ⟨Bx, 2, none⟩ = some (.int .i64 x.1.n) := (blk_cell hP 2).trans rfl
    have cx3 : W.cell? ⟨Bx, 3, none⟩ = some (.int .i64 x.1.d) := (blk_cell hP 3).trans rfl
    have c60 : W.cell? ⟨b6, 0, none⟩ = some (.int .i64 L.x) := (blk_cell hL 0).trans rfl
    have c61 : W.cell? ⟨b6, 1, none⟩ = some (.int .i64 L.y) := (blk_cell hL 1).trans rfl
    have c62 : W.cell? ⟨b6, 2, none⟩ = some (.int .i64 L.n) := (blk_cell hL 2).trans rfl
    have c63 : W.cell? ⟨b6, 3, none⟩ = some (.int .i64 L.d) := (blk_cell hL 3).trans rfl
    have c70 : W.cell? ⟨b7, 0, none⟩ = some (.int .i64 M.x) := (blk_cell hM 0).trans rfl
    have c71 : W.cell? ⟨b7, 1, none⟩ = some (.int .i64 M.y) := (blk_cell hM 1).trans rfl
    have c72 : W.cell? ⟨b7, 2, none⟩ = some (.int .i64 M.n) := (blk_cell hM 2).trans rfl
    have c73 : W.cell? ⟨b7, 3, none⟩ = some (.int .i64 M.d) := (blk_cell hM 3).trans rfl
    have f80 := blk_frozen h8 0
    have f60 := blk_frozen hL 0
    have f61 := blk_frozen hL 1
    have f62 := blk_frozen hL 2
    have f63 := blk_frozen hL 3
    have f70 := blk_frozen hM 0
    have f71 := blk_frozen hM 1
    have f72 := blk_frozen hM 2
    have f73 := blk_frozen hM 3
    have n67 : ¬ (b6 = b7) := by have := HO.out; omega
    have n76 : ¬ (b7 = b6) := by have := HO.out; omega
    have n86 : ¬ (b8 = b6) := by have := HO.out; omega
    have n87 : ¬ (b8 = b7) := by have := HO.out; omega
    have nx6 : ¬ (Bx = b6) := by have := HO.out; omega
    have nx7 : ¬ (Bx = b7) := by have := HO.out; omega
    have nx8 : ¬ (Bx = b8) := by have := HO.out; omega
    have n86' : ¬ (b6 = b8) := by have := HO.out; omega
    have n87' : ¬ (b7 = b8) := by have := HO.out; omega
    have g6 : w.heap.size ≤ b6 := by have := HO.out; omega
    have g7 : w.heap.size ≤ b7 := by have := HO.out; omega
    have g8 : w.heap.size ≤ b8 := by have := HO.out; omega
    have hdep : 1 ≤ n - 1 - 1 := by omega
    by_cases he : pre = []
    · subst he
      have c80 : W.cell? ⟨b8, 0, none⟩ = some (.bool false) := (blk_cell h8 0).trans rfl
      clear hP hL hM h8 hBl hr hl hLe hMe hls hms hcmp
      gi_wp2_with (refine ⟨trivial, ?_⟩)
      change ownPostG _ _ _ _ _ _ _ _ ((put4 (put4 W b6 x.1) b7 x.1).setCell ⟨b8, 0, none⟩ (.bool true))
      have k6 := blk_far (p := ⟨b8, 0, none⟩) (put4_far x.1 (put4_same x.1 HL.out) n67) n86' (.bool true)
      have k7 := blk_far (p := ⟨b8, 0, none⟩) (put4_same x.1 (put4_far x.1 HM.out n76)) n87' (.bool true)
      have k8 := blk_put (put4_far x.1 (put4_far x.1 H8.out n86) n87) 0 (.bool true) (cs' := #[.bool true]) rfl
      exact ⟨(((put4_keeps W b6 x.1).trans (put4_keeps _ b7 x.1)).trans (KeepsOthers.setCell _ _ _)).from _, KpS.put8 (put4_kp x.1 (put4_kp x.1 (KpS.refl _ _ W) g6 (.inl rfl)) g7 (.inr (.inl rfl))) g8 (.inr (.inr rfl)), ⟨⟨k6, k7, k8⟩, below_set (put4_below x.1 (put4_below x.1 HBl.out g6) g7) g8⟩⟩
    · have H8 : Aside0 (W.heap[b8]? = some (.cells #[.bool true] 4 (0, 0))) := by
        refine ⟨h8.trans ?_⟩
        cases pre with
        | nil => exact absurd rfl he
        | cons _ _ => rfl
      have c80 : W.cell? ⟨b8, 0, none⟩ = some (.bool true) := (blk_cell H8.out 0).trans rfl
      obtain ⟨c, c', hc1, hc2, hd1, hd2⟩ := hcmp he
      have hL2 := hls he
      have hM2 := hms he
      have HC1 := Aside0.mk hc1
      have HD1 := Aside0.mk hd1
      have HNE : Aside0 ((!(pre ++ [x]).isEmpty) = true) := ⟨by simp⟩
      have g60 := HO.out
      by_cases hl1 : ltP x.1 L = true
      · rw [if_pos hl1] at hL2
        have hcc := hc2.2 hl1
        by_cases hm1 : ltP M x.1 = true
        · rw [if_pos hm1] at hM2
          have hdd := hd2.2 hm1
          have HL2 := Aside0.mk hL2
          have HM2 := Aside0.mk hM2
          clear hP hL hM h8 hBl hr hl hLe hMe hls hms hcmp hc1 hc2 hd1 hd2 hL2 hM2 hl1 hm1 g60
          gi_wp2_with (refine ⟨trivial, ?_⟩; gi_at_call 150; have hcall := CallsIn.inRound l (callsIn_wide (n := n - 1 - 1 - 1).2 (spans_value_compare.calls 3 x.1.n x.1.d L.n L.d c W HC1.out)); with_reducible refine hcall.mono ?_; clear hcall; rintro e w1 ⟨rfl, hb1⟩; have HL1 := Aside0.mk (blk_below HL.out hb1); have HM1 := Aside0.mk (blk_below HM.out hb1); have HP1 := Aside0.mk (blk_below HP.out hb1); have H81 := Aside0.mk (blk_below H8.out hb1); have HB1 := Aside0.mk hb1; clear hb1; have qb60 : w1.cell? ⟨b6, 0, none⟩ = some (.int .i64 L.x) := (blk_cell HL1.out 0).trans rfl; have rb60 := blk_frozen HL1.out 0; have qb61 : w1.cell? ⟨b6, 1, none⟩ = some (.int .i64 L.y) := (blk_cell HL1.out 1).trans rfl; have rb61 := blk_frozen HL1.out 1; have qb62 : w1.cell? ⟨b6, 2, none⟩ = some (.int .i64 L.n) := (blk_cell HL1.out 2).trans rfl; have rb62 := blk_frozen HL1.out 2; have qb63 : w1.cell? ⟨b6, 3, none⟩ = some (.int .i64 L.d) := (blk_cell HL1.out 3).trans rfl; have rb63 := blk_frozen HL1.out 3; have qb70 : w1.cell? ⟨b7, 0, none⟩ = some (.int .i64 M.x) := (blk_cell HM1.out 0).trans rfl; have rb70 := blk_frozen HM1.out 0; have qb71 : w1.cell? ⟨b7, 1, none⟩ = some (.int .i64 M.y) := (blk_cell HM1.out 1).trans rfl; have rb71 := blk_frozen HM1.out 1; have qb72 : w1.cell? ⟨b7, 2, none⟩ = some (.int .i64 M.n) := (blk_cell HM1.out 2).trans rfl; have rb72 := blk_frozen HM1.out 2; have qb73 : w1.cell? ⟨b7, 3, none⟩ = some (.int .i64 M.d) := (blk_cell HM1.out 3).trans rfl; have rb73 := blk_frozen HM1.out 3; have qBx0 : w1.cell? ⟨Bx, 0, none⟩ = some (.int .i64 x.1.x) := (blk_cell HP1.out 0).trans rfl; have qBx1 : w1.cell? ⟨Bx, 1, none⟩ = some (.int .i64 x.1.y) := (blk_cell HP1.out 1).trans rfl; have qBx2 : w1.cell? ⟨Bx, 2, none⟩ = some (.int .i64 x.1.n) := (blk_cell HP1.out 2).trans rfl; have qBx3 : w1.cell? ⟨Bx, 3, none⟩ = some (.int .i64 x.1.d) := (blk_cell HP1.out 3).trans rfl; have q8 : w1.cell? ⟨b8, 0, none⟩ = some (.bool true) := (blk_cell H81.out 0).trans rfl; have r8 := blk_frozen H81.out 0)
          clear qb60 qb61 qb62 qb63 qb70 qb71 qb72 qb73 qBx0 qBx1 qBx2 qBx3 rb60 rb61 rb62 rb63 rb70 rb71 rb72 rb73 q8 r8
          gi_wp2
          refine ⟨trivial, ?_⟩
          gi_at_call 150
          have hcall := CallsIn.inRound l (callsIn_wide (n := n - 1 - 1 - 1).2 (spans_value_compare.calls 3 x.1.n x.1.d M.n M.d c' ((((w1.setCell ⟨b6, 0, none⟩ (.int .i64 x.1.x)).setCell ⟨b6, 1, none⟩ (.int .i64 x.1.y)).setCell ⟨b6, 2, none⟩ (.int .i64 x.1.n)).setCell ⟨b6, 3, none⟩ (.int .i64 x.1.d)) HD1.out))
          with_reducible refine hcall.mono ?_
          clear hcall
          rintro e w2 ⟨rfl, hb2⟩
          have HL2_ := Aside0.mk (blk_below (w := put4 w1 b6 x.1) (put4_same x.1 HL1.out) hb2)
          have HM2_ := Aside0.mk (blk_below (w := put4 w1 b6 x.1) (put4_far x.1 HM1.out n76) hb2)
          have HP2_ := Aside0.mk (blk_below (w := put4 w1 b6 x.1) (put4_far x.1 HP1.out nx6) hb2)
          have H82_ := Aside0.mk (blk_below (w := put4 w1 b6 x.1) (put4_far x.1 H81.out n86) hb2)
          have HB2 := Aside0.mk hb2
          clear hb2
          have qb60 : w2.cell? ⟨b6, 0, none⟩ = some (.int .i64 x.1.x) := (blk_cell HL2_.out 0).trans rfl
          have rb60 := blk_frozen HL2_.out 0
          have qb61 : w2.cell? ⟨b6, 1, none⟩ = some (.int .i64 x.1.y) := (blk_cell HL2_.out 1).trans rfl
          have rb61 := blk_frozen HL2_.out 1
          have qb62 : w2.cell? ⟨b6, 2, none⟩ = some (.int .i64 x.1.n) := (blk_cell HL2_.out 2).trans rfl
          have rb62 := blk_frozen HL2_.out 2
          have qb63 : w2.cell? ⟨b6, 3, none⟩ = some (.int .i64 x.1.d) := (blk_cell HL2_.out 3).trans rfl
          have rb63 := blk_frozen HL2_.out 3
          have qb70 : w2.cell? ⟨b7, 0, none⟩ = some (.int .i64 M.x) := (blk_cell HM2_.out 0).trans rfl
          have rb70 := blk_frozen HM2_.out 0
          have qb71 : w2.cell? ⟨b7, 1, none⟩ = some (.int .i64 M.y) := (blk_cell HM2_.out 1).trans rfl
          have rb71 := blk_frozen HM2_.out 1
          have qb72 : w2.cell? ⟨b7, 2, none⟩ = some (.int .i64 M.n) := (blk_cell HM2_.out 2).trans rfl
          have rb72 := blk_frozen HM2_.out 2
          have qb73 : w2.cell? ⟨b7, 3, none⟩ = some (.int .i64 M.d) := (blk_cell HM2_.out 3).trans rfl
          have rb73 := blk_frozen HM2_.out 3
          have qBx0 : w2.cell? ⟨Bx, 0, none⟩ = some (.int .i64 x.1.x) := (blk_cell HP2_.out 0).trans rfl
          have qBx1 : w2.cell? ⟨Bx, 1, none⟩ = some (.int .i64 x.1.y) := (blk_cell HP2_.out 1).trans rfl
          have qBx2 : w2.cell? ⟨Bx, 2, none⟩ = some (.int .i64 x.1.n) := (blk_cell HP2_.out 2).trans rfl
          have qBx3 : w2.cell? ⟨Bx, 3, none⟩ = some (.int .i64 x.1.d) := (blk_cell HP2_.out 3).trans rfl
          have q8 : w2.cell? ⟨b8, 0, none⟩ = some (.bool true) := (blk_cell H82_.out 0).trans rfl
          have r8 := blk_frozen H82_.out 0
          gi_wp2
          have kp1 : KpS w.heap.size (fun k => k = b6 ∨ k = b7 ∨ k = b8) W (put4 w1 b6 x.1) := put4_kp x.1 (KpS.of_below HBl.out.size HB1.out) g6 (.inl rfl)
          have kp2 : KpS w.heap.size (fun k => k = b6 ∨ k = b7 ∨ k = b8) W w2 := kp1.trans (KpS.of_below (by have := kp1.1.size; have := HBl.out.size; omega) HB2.out)
          have ke2 : KeepsOthers W w2 := (((kothers_below HB1.out).trans (put4_keeps w1 b6 x.1)).trans (kothers_below HB2.out))
          change ownPostG _ _ _ _ _ _ _ _ ((put4 w2 b7 x.1).setCell ⟨b8, 0, none⟩ (.bool true))
          have k6 := blk_far (p := ⟨b8, 0, none⟩) (put4_far x.1 HL2_.out n67) n86' (.bool true)
          have k7 := blk_far (p := ⟨b8, 0, none⟩) (put4_same x.1 HM2_.out) n87' (.bool true)
          have k8 := blk_put (put4_far x.1 H82_.out n87) 0 (.bool true) (cs' := #[.bool true]) rfl
          refine ⟨((ke2.trans (put4_keeps w2 b7 x.1)).trans (KeepsOthers.setCell _ _ _)).from _, KpS.put8 (put4_kp x.1 kp2 g7 (.inr (.inl rfl))) g8 (.inr (.inr rfl)), ⟨⟨?_, ?_, ?_⟩, ?_⟩⟩
          · rw [HL2.out]; exact k6
          · rw [HM2.out]; exact k7
          · rw [HNE.out]; exact k8
          · exact below_set (put4_below x.1 (HBl.out.trans kp2.1) g7) g8
        · rw [if_neg hm1] at hM2
          have hdd : ¬ c' > 0 := fun h => hm1 (hd2.1 h)
          have HL2 := Aside0.mk hL2
          have HM2 := Aside0.mk hM2
          clear hP hL hM h8 hBl hr hl hLe hMe hls hms hcmp hc1 hc2 hd1 hd2 hL2 hM2 hl1 hm1 g60
          gi_wp2_with (refine ⟨trivial, ?_⟩; gi_at_call 150; have hcall := CallsIn.inRound l (callsIn_wide (n := n - 1 - 1 - 1).2 (spans_value_compare.calls 3 x.1.n x.1.d L.n L.d c W HC1.out)); with_reducible refine hcall.mono ?_; clear hcall; rintro e w1 ⟨rfl, hb1⟩; have HL1 := Aside0.mk (blk_below HL.out hb1); have HM1 := Aside0.mk (blk_below HM.out hb1); have HP1 := Aside0.mk (blk_below HP.out hb1); have H81 := Aside0.mk (blk_below H8.out hb1); have HB1 := Aside0.mk hb1; clear hb1; have qb60 : w1.cell? ⟨b6, 0, none⟩ = some (.int .i64 L.x) := (blk_cell HL1.out 0).trans rfl; have rb60 := blk_frozen HL1.out 0; have qb61 : w1.cell? ⟨b6, 1, none⟩ = some (.int .i64 L.y) := (blk_cell HL1.out 1).trans rfl; have rb61 := blk_frozen HL1.out 1; have qb62 : w1.cell? ⟨b6, 2, none⟩ = some (.int .i64 L.n) := (blk_cell HL1.out 2).trans rfl; have rb62 := blk_frozen HL1.out 2; have qb63 : w1.cell? ⟨b6, 3, none⟩ = some (.int .i64 L.d) := (blk_cell HL1.out 3).trans rfl; have rb63 := blk_frozen HL1.out 3; have qb70 : w1.cell? ⟨b7, 0, none⟩ = some (.int .i64 M.x) := (blk_cell HM1.out 0).trans rfl; have rb70 := blk_frozen HM1.out 0; have qb71 : w1.cell? ⟨b7, 1, none⟩ = some (.int .i64 M.y) := (blk_cell HM1.out 1).trans rfl; have rb71 := blk_frozen HM1.out 1; have qb72 : w1.cell? ⟨b7, 2, none⟩ = some (.int .i64 M.n) := (blk_cell HM1.out 2).trans rfl; have rb72 := blk_frozen HM1.out 2; have qb73 : w1.cell? ⟨b7, 3, none⟩ = some (.int .i64 M.d) := (blk_cell HM1.out 3).trans rfl; have rb73 := blk_frozen HM1.out 3; have qBx0 : w1.cell? ⟨Bx, 0, none⟩ = some (.int .i64 x.1.x) := (blk_cell HP1.out 0).trans rfl; have qBx1 : w1.cell? ⟨Bx, 1, none⟩ = some (.int .i64 x.1.y) := (blk_cell HP1.out 1).trans rfl; have qBx2 : w1.cell? ⟨Bx, 2, none⟩ = some (.int .i64 x.1.n) := (blk_cell HP1.out 2).trans rfl; have qBx3 : w1.cell? ⟨Bx, 3, none⟩ = some (.int .i64 x.1.d) := (blk_cell HP1.out 3).trans rfl; have q8 : w1.cell? ⟨b8, 0, none⟩ = some (.bool true) := (blk_cell H81.out 0).trans rfl; have r8 := blk_frozen H81.out 0)
          clear qb60 qb61 qb62 qb63 qb70 qb71 qb72 qb73 qBx0 qBx1 qBx2 qBx3 rb60 rb61 rb62 rb63 rb70 rb71 rb72 rb73 q8 r8
          gi_wp2
          refine ⟨trivial, ?_⟩
          gi_at_call 150
          have hcall := CallsIn.inRound l (callsIn_wide (n := n - 1 - 1 - 1).2 (spans_value_compare.calls 3 x.1.n x.1.d M.n M.d c' ((((w1.setCell ⟨b6, 0, none⟩ (.int .i64 x.1.x)).setCell ⟨b6, 1, none⟩ (.int .i64 x.1.y)).setCell ⟨b6, 2, none⟩ (.int .i64 x.1.n)).setCell ⟨b6, 3, none⟩ (.int .i64 x.1.d)) HD1.out))
          with_reducible refine hcall.mono ?_
          clear hcall
          rintro e w2 ⟨rfl, hb2⟩
          have HL2_ := Aside0.mk (blk_below (w := put4 w1 b6 x.1) (put4_same x.1 HL1.out) hb2)
          have HM2_ := Aside0.mk (blk_below (w := put4 w1 b6 x.1) (put4_far x.1 HM1.out n76) hb2)
          have HP2_ := Aside0.mk (blk_below (w := put4 w1 b6 x.1) (put4_far x.1 HP1.out nx6) hb2)
          have H82_ := Aside0.mk (blk_below (w := put4 w1 b6 x.1) (put4_far x.1 H81.out n86) hb2)
          have HB2 := Aside0.mk hb2
          clear hb2
          have qb60 : w2.cell? ⟨b6, 0, none⟩ = some (.int .i64 x.1.x) := (blk_cell HL2_.out 0).trans rfl
          have rb60 := blk_frozen HL2_.out 0
          have qb61 : w2.cell? ⟨b6, 1, none⟩ = some (.int .i64 x.1.y) := (blk_cell HL2_.out 1).trans rfl
          have rb61 := blk_frozen HL2_.out 1
          have qb62 : w2.cell? ⟨b6, 2, none⟩ = some (.int .i64 x.1.n) := (blk_cell HL2_.out 2).trans rfl
          have rb62 := blk_frozen HL2_.out 2
          have qb63 : w2.cell? ⟨b6, 3, none⟩ = some (.int .i64 x.1.d) := (blk_cell HL2_.out 3).trans rfl
          have rb63 := blk_frozen HL2_.out 3
          have qb70 : w2.cell? ⟨b7, 0, none⟩ = some (.int .i64 M.x) := (blk_cell HM2_.out 0).trans rfl
          have rb70 := blk_frozen HM2_.out 0
          have qb71 : w2.cell? ⟨b7, 1, none⟩ = some (.int .i64 M.y) := (blk_cell HM2_.out 1).trans rfl
          have rb71 := blk_frozen HM2_.out 1
          have qb72 : w2.cell? ⟨b7, 2, none⟩ = some (.int .i64 M.n) := (blk_cell HM2_.out 2).trans rfl
          have rb72 := blk_frozen HM2_.out 2
          have qb73 : w2.cell? ⟨b7, 3, none⟩ = some (.int .i64 M.d) := (blk_cell HM2_.out 3).trans rfl
          have rb73 := blk_frozen HM2_.out 3
          have qBx0 : w2.cell? ⟨Bx, 0, none⟩ = some (.int .i64 x.1.x) := (blk_cell HP2_.out 0).trans rfl
          have qBx1 : w2.cell? ⟨Bx, 1, none⟩ = some (.int .i64 x.1.y) := (blk_cell HP2_.out 1).trans rfl
          have qBx2 : w2.cell? ⟨Bx, 2, none⟩ = some (.int .i64 x.1.n) := (blk_cell HP2_.out 2).trans rfl
          have qBx3 : w2.cell? ⟨Bx, 3, none⟩ = some (.int .i64 x.1.d) := (blk_cell HP2_.out 3).trans rfl
          have q8 : w2.cell? ⟨b8, 0, none⟩ = some (.bool true) := (blk_cell H82_.out 0).trans rfl
          have r8 := blk_frozen H82_.out 0
          gi_wp2
          have kp1 : KpS w.heap.size (fun k => k = b6 ∨ k = b7 ∨ k = b8) W (put4 w1 b6 x.1) := put4_kp x.1 (KpS.of_below HBl.out.size HB1.out) g6 (.inl rfl)
          have kp2 : KpS w.heap.size (fun k => k = b6 ∨ k = b7 ∨ k = b8) W w2 := kp1.trans (KpS.of_below (by have := kp1.1.size; have := HBl.out.size; omega) HB2.out)
          have ke2 : KeepsOthers W w2 := (((kothers_below HB1.out).trans (put4_keeps w1 b6 x.1)).trans (kothers_below HB2.out))
          change ownPostG _ _ _ _ _ _ _ _ (w2.setCell ⟨b8, 0, none⟩ (.bool true))
          have k6 := blk_far (p := ⟨b8, 0, none⟩) HL2_.out n86' (.bool true)
          have k7 := blk_far (p := ⟨b8, 0, none⟩) HM2_.out n87' (.bool true)
          have k8 := blk_put H82_.out 0 (.bool true) (cs' := #[.bool true]) rfl
          refine ⟨((ke2).trans (KeepsOthers.setCell _ _ _)).from _, KpS.put8 kp2 g8 (.inr (.inr rfl)), ⟨⟨?_, ?_, ?_⟩, ?_⟩⟩
          · rw [HL2.out]; exact k6
          · rw [HM2.out]; exact k7
          · rw [HNE.out]; exact k8
          · exact below_set (HBl.out.trans kp2.1) g8
      · rw [if_neg hl1] at hL2
        have hcc : ¬ c < 0 := fun h => hl1 (hc2.1 h)
        by_cases hm1 : ltP M x.1 = true
        · rw [if_pos hm1] at hM2
          have hdd := hd2.2 hm1
          have HL2 := Aside0.mk hL2
          have HM2 := Aside0.mk hM2
          clear hP hL hM h8 hBl hr hl hLe hMe hls hms hcmp hc1 hc2 hd1 hd2 hL2 hM2 hl1 hm1 g60
          gi_wp2_with (refine ⟨trivial, ?_⟩; gi_at_call 150; have hcall := CallsIn.inRound l (callsIn_wide (n := n - 1 - 1 - 1).2 (spans_value_compare.calls 3 x.1.n x.1.d L.n L.d c W HC1.out)); with_reducible refine hcall.mono ?_; clear hcall; rintro e w1 ⟨rfl, hb1⟩; have HL1 := Aside0.mk (blk_below HL.out hb1); have HM1 := Aside0.mk (blk_below HM.out hb1); have HP1 := Aside0.mk (blk_below HP.out hb1); have H81 := Aside0.mk (blk_below H8.out hb1); have HB1 := Aside0.mk hb1; clear hb1; have qb60 : w1.cell? ⟨b6, 0, none⟩ = some (.int .i64 L.x) := (blk_cell HL1.out 0).trans rfl; have rb60 := blk_frozen HL1.out 0; have qb61 : w1.cell? ⟨b6, 1, none⟩ = some (.int .i64 L.y) := (blk_cell HL1.out 1).trans rfl; have rb61 := blk_frozen HL1.out 1; have qb62 : w1.cell? ⟨b6, 2, none⟩ = some (.int .i64 L.n) := (blk_cell HL1.out 2).trans rfl; have rb62 := blk_frozen HL1.out 2; have qb63 : w1.cell? ⟨b6, 3, none⟩ = some (.int .i64 L.d) := (blk_cell HL1.out 3).trans rfl; have rb63 := blk_frozen HL1.out 3; have qb70 : w1.cell? ⟨b7, 0, none⟩ = some (.int .i64 M.x) := (blk_cell HM1.out 0).trans rfl; have rb70 := blk_frozen HM1.out 0; have qb71 : w1.cell? ⟨b7, 1, none⟩ = some (.int .i64 M.y) := (blk_cell HM1.out 1).trans rfl; have rb71 := blk_frozen HM1.out 1; have qb72 : w1.cell? ⟨b7, 2, none⟩ = some (.int .i64 M.n) := (blk_cell HM1.out 2).trans rfl; have rb72 := blk_frozen HM1.out 2; have qb73 : w1.cell? ⟨b7, 3, none⟩ = some (.int .i64 M.d) := (blk_cell HM1.out 3).trans rfl; have rb73 := blk_frozen HM1.out 3; have qBx0 : w1.cell? ⟨Bx, 0, none⟩ = some (.int .i64 x.1.x) := (blk_cell HP1.out 0).trans rfl; have qBx1 : w1.cell? ⟨Bx, 1, none⟩ = some (.int .i64 x.1.y) := (blk_cell HP1.out 1).trans rfl; have qBx2 : w1.cell? ⟨Bx, 2, none⟩ = some (.int .i64 x.1.n) := (blk_cell HP1.out 2).trans rfl; have qBx3 : w1.cell? ⟨Bx, 3, none⟩ = some (.int .i64 x.1.d) := (blk_cell HP1.out 3).trans rfl; have q8 : w1.cell? ⟨b8, 0, none⟩ = some (.bool true) := (blk_cell H81.out 0).trans rfl; have r8 := blk_frozen H81.out 0)
          clear qb60 qb61 qb62 qb63 qb70 qb71 qb72 qb73 qBx0 qBx1 qBx2 qBx3 rb60 rb61 rb62 rb63 rb70 rb71 rb72 rb73 q8 r8
          gi_wp2_with (refine ⟨trivial, ?_⟩; gi_at_call 150; have hcall := CallsIn.inRound l (callsIn_wide (n := n - 1 - 1 - 1).2 (spans_value_compare.calls 3 x.1.n x.1.d M.n M.d c' w1 HD1.out)); with_reducible refine hcall.mono ?_; clear hcall; rintro e w2 ⟨rfl, hb2⟩; have HL2_ := Aside0.mk (blk_below HL1.out hb2); have HM2_ := Aside0.mk (blk_below HM1.out hb2); have HP2_ := Aside0.mk (blk_below HP1.out hb2); have H82_ := Aside0.mk (blk_below H81.out hb2); have HB2 := Aside0.mk hb2; clear hb2; have qb60 : w2.cell? ⟨b6, 0, none⟩ = some (.int .i64 L.x) := (blk_cell HL2_.out 0).trans rfl; have rb60 := blk_frozen HL2_.out 0; have qb61 : w2.cell? ⟨b6, 1, none⟩ = some (.int .i64 L.y) := (blk_cell HL2_.out 1).trans rfl; have rb61 := blk_frozen HL2_.out 1; have qb62 : w2.cell? ⟨b6, 2, none⟩ = some (.int .i64 L.n) := (blk_cell HL2_.out 2).trans rfl; have rb62 := blk_frozen HL2_.out 2; have qb63 : w2.cell? ⟨b6, 3, none⟩ = some (.int .i64 L.d) := (blk_cell HL2_.out 3).trans rfl; have rb63 := blk_frozen HL2_.out 3; have qb70 : w2.cell? ⟨b7, 0, none⟩ = some (.int .i64 M.x) := (blk_cell HM2_.out 0).trans rfl; have rb70 := blk_frozen HM2_.out 0; have qb71 : w2.cell? ⟨b7, 1, none⟩ = some (.int .i64 M.y) := (blk_cell HM2_.out 1).trans rfl; have rb71 := blk_frozen HM2_.out 1; have qb72 : w2.cell? ⟨b7, 2, none⟩ = some (.int .i64 M.n) := (blk_cell HM2_.out 2).trans rfl; have rb72 := blk_frozen HM2_.out 2; have qb73 : w2.cell? ⟨b7, 3, none⟩ = some (.int .i64 M.d) := (blk_cell HM2_.out 3).trans rfl; have rb73 := blk_frozen HM2_.out 3; have qBx0 : w2.cell? ⟨Bx, 0, none⟩ = some (.int .i64 x.1.x) := (blk_cell HP2_.out 0).trans rfl; have qBx1 : w2.cell? ⟨Bx, 1, none⟩ = some (.int .i64 x.1.y) := (blk_cell HP2_.out 1).trans rfl; have qBx2 : w2.cell? ⟨Bx, 2, none⟩ = some (.int .i64 x.1.n) := (blk_cell HP2_.out 2).trans rfl; have qBx3 : w2.cell? ⟨Bx, 3, none⟩ = some (.int .i64 x.1.d) := (blk_cell HP2_.out 3).trans rfl; have q8 : w2.cell? ⟨b8, 0, none⟩ = some (.bool true) := (blk_cell H82_.out 0).trans rfl; have r8 := blk_frozen H82_.out 0)
          have kp1 : KpS w.heap.size (fun k => k = b6 ∨ k = b7 ∨ k = b8) W w1 := KpS.of_below HBl.out.size HB1.out
          have kp2 : KpS w.heap.size (fun k => k = b6 ∨ k = b7 ∨ k = b8) W w2 := kp1.trans (KpS.of_below (by have := kp1.1.size; have := HBl.out.size; omega) HB2.out)
          have ke2 : KeepsOthers W w2 := ((kothers_below HB1.out).trans (kothers_below HB2.out))
          change ownPostG _ _ _ _ _ _ _ _ ((put4 w2 b7 x.1).setCell ⟨b8, 0, none⟩ (.bool true))
          have k6 := blk_far (p := ⟨b8, 0, none⟩) (put4_far x.1 HL2_.out n67) n86' (.bool true)
          have k7 := blk_far (p := ⟨b8, 0, none⟩) (put4_same x.1 HM2_.out) n87' (.bool true)
          have k8 := blk_put (put4_far x.1 H82_.out n87) 0 (.bool true) (cs' := #[.bool true]) rfl
          refine ⟨((ke2.trans (put4_keeps w2 b7 x.1)).trans (KeepsOthers.setCell _ _ _)).from _, KpS.put8 (put4_kp x.1 kp2 g7 (.inr (.inl rfl))) g8 (.inr (.inr rfl)), ⟨⟨?_, ?_, ?_⟩, ?_⟩⟩
          · rw [HL2.out]; exact k6
          · rw [HM2.out]; exact k7
          · rw [HNE.out]; exact k8
          · exact below_set (put4_below x.1 (HBl.out.trans kp2.1) g7) g8
        · rw [if_neg hm1] at hM2
          have hdd : ¬ c' > 0 := fun h => hm1 (hd2.1 h)
          have HL2 := Aside0.mk hL2
          have HM2 := Aside0.mk hM2
          clear hP hL hM h8 hBl hr hl hLe hMe hls hms hcmp hc1 hc2 hd1 hd2 hL2 hM2 hl1 hm1 g60
          gi_wp2_with (refine ⟨trivial, ?_⟩; gi_at_call 150; have hcall := CallsIn.inRound l (callsIn_wide (n := n - 1 - 1 - 1).2 (spans_value_compare.calls 3 x.1.n x.1.d L.n L.d c W HC1.out)); with_reducible refine hcall.mono ?_; clear hcall; rintro e w1 ⟨rfl, hb1⟩; have HL1 := Aside0.mk (blk_below HL.out hb1); have HM1 := Aside0.mk (blk_below HM.out hb1); have HP1 := Aside0.mk (blk_below HP.out hb1); have H81 := Aside0.mk (blk_below H8.out hb1); have HB1 := Aside0.mk hb1; clear hb1; have qb60 : w1.cell? ⟨b6, 0, none⟩ = some (.int .i64 L.x) := (blk_cell HL1.out 0).trans rfl; have rb60 := blk_frozen HL1.out 0; have qb61 : w1.cell? ⟨b6, 1, none⟩ = some (.int .i64 L.y) := (blk_cell HL1.out 1).trans rfl; have rb61 := blk_frozen HL1.out 1; have qb62 : w1.cell? ⟨b6, 2, none⟩ = some (.int .i64 L.n) := (blk_cell HL1.out 2).trans rfl; have rb62 := blk_frozen HL1.out 2; have qb63 : w1.cell? ⟨b6, 3, none⟩ = some (.int .i64 L.d) := (blk_cell HL1.out 3).trans rfl; have rb63 := blk_frozen HL1.out 3; have qb70 : w1.cell? ⟨b7, 0, none⟩ = some (.int .i64 M.x) := (blk_cell HM1.out 0).trans rfl; have rb70 := blk_frozen HM1.out 0; have qb71 : w1.cell? ⟨b7, 1, none⟩ = some (.int .i64 M.y) := (blk_cell HM1.out 1).trans rfl; have rb71 := blk_frozen HM1.out 1; have qb72 : w1.cell? ⟨b7, 2, none⟩ = some (.int .i64 M.n) := (blk_cell HM1.out 2).trans rfl; have rb72 := blk_frozen HM1.out 2; have qb73 : w1.cell? ⟨b7, 3, none⟩ = some (.int .i64 M.d) := (blk_cell HM1.out 3).trans rfl; have rb73 := blk_frozen HM1.out 3; have qBx0 : w1.cell? ⟨Bx, 0, none⟩ = some (.int .i64 x.1.x) := (blk_cell HP1.out 0).trans rfl; have qBx1 : w1.cell? ⟨Bx, 1, none⟩ = some (.int .i64 x.1.y) := (blk_cell HP1.out 1).trans rfl; have qBx2 : w1.cell? ⟨Bx, 2, none⟩ = some (.int .i64 x.1.n) := (blk_cell HP1.out 2).trans rfl; have qBx3 : w1.cell? ⟨Bx, 3, none⟩ = some (.int .i64 x.1.d) := (blk_cell HP1.out 3).trans rfl; have q8 : w1.cell? ⟨b8, 0, none⟩ = some (.bool true) := (blk_cell H81.out 0).trans rfl; have r8 := blk_frozen H81.out 0)
          clear qb60 qb61 qb62 qb63 qb70 qb71 qb72 qb73 qBx0 qBx1 qBx2 qBx3 rb60 rb61 rb62 rb63 rb70 rb71 rb72 rb73 q8 r8
          gi_wp2_with (refine ⟨trivial, ?_⟩; gi_at_call 150; have hcall := CallsIn.inRound l (callsIn_wide (n := n - 1 - 1 - 1).2 (spans_value_compare.calls 3 x.1.n x.1.d M.n M.d c' w1 HD1.out)); with_reducible refine hcall.mono ?_; clear hcall; rintro e w2 ⟨rfl, hb2⟩; have HL2_ := Aside0.mk (blk_below HL1.out hb2); have HM2_ := Aside0.mk (blk_below HM1.out hb2); have HP2_ := Aside0.mk (blk_below HP1.out hb2); have H82_ := Aside0.mk (blk_below H81.out hb2); have HB2 := Aside0.mk hb2; clear hb2; have qb60 : w2.cell? ⟨b6, 0, none⟩ = some (.int .i64 L.x) := (blk_cell HL2_.out 0).trans rfl; have rb60 := blk_frozen HL2_.out 0; have qb61 : w2.cell? ⟨b6, 1, none⟩ = some (.int .i64 L.y) := (blk_cell HL2_.out 1).trans rfl; have rb61 := blk_frozen HL2_.out 1; have qb62 : w2.cell? ⟨b6, 2, none⟩ = some (.int .i64 L.n) := (blk_cell HL2_.out 2).trans rfl; have rb62 := blk_frozen HL2_.out 2; have qb63 : w2.cell? ⟨b6, 3, none⟩ = some (.int .i64 L.d) := (blk_cell HL2_.out 3).trans rfl; have rb63 := blk_frozen HL2_.out 3; have qb70 : w2.cell? ⟨b7, 0, none⟩ = some (.int .i64 M.x) := (blk_cell HM2_.out 0).trans rfl; have rb70 := blk_frozen HM2_.out 0; have qb71 : w2.cell? ⟨b7, 1, none⟩ = some (.int .i64 M.y) := (blk_cell HM2_.out 1).trans rfl; have rb71 := blk_frozen HM2_.out 1; have qb72 : w2.cell? ⟨b7, 2, none⟩ = some (.int .i64 M.n) := (blk_cell HM2_.out 2).trans rfl; have rb72 := blk_frozen HM2_.out 2; have qb73 : w2.cell? ⟨b7, 3, none⟩ = some (.int .i64 M.d) := (blk_cell HM2_.out 3).trans rfl; have rb73 := blk_frozen HM2_.out 3; have qBx0 : w2.cell? ⟨Bx, 0, none⟩ = some (.int .i64 x.1.x) := (blk_cell HP2_.out 0).trans rfl; have qBx1 : w2.cell? ⟨Bx, 1, none⟩ = some (.int .i64 x.1.y) := (blk_cell HP2_.out 1).trans rfl; have qBx2 : w2.cell? ⟨Bx, 2, none⟩ = some (.int .i64 x.1.n) := (blk_cell HP2_.out 2).trans rfl; have qBx3 : w2.cell? ⟨Bx, 3, none⟩ = some (.int .i64 x.1.d) := (blk_cell HP2_.out 3).trans rfl; have q8 : w2.cell? ⟨b8, 0, none⟩ = some (.bool true) := (blk_cell H82_.out 0).trans rfl; have r8 := blk_frozen H82_.out 0)
          have kp1 : KpS w.heap.size (fun k => k = b6 ∨ k = b7 ∨ k = b8) W w1 := KpS.of_below HBl.out.size HB1.out
          have kp2 : KpS w.heap.size (fun k => k = b6 ∨ k = b7 ∨ k = b8) W w2 := kp1.trans (KpS.of_below (by have := kp1.1.size; have := HBl.out.size; omega) HB2.out)
          have ke2 : KeepsOthers W w2 := ((kothers_below HB1.out).trans (kothers_below HB2.out))
          change ownPostG _ _ _ _ _ _ _ _ (w2.setCell ⟨b8, 0, none⟩ (.bool true))
          have k6 := blk_far (p := ⟨b8, 0, none⟩) HL2_.out n86' (.bool true)
          have k7 := blk_far (p := ⟨b8, 0, none⟩) HM2_.out n87' (.bool true)
          have k8 := blk_put H82_.out 0 (.bool true) (cs' := #[.bool true]) rfl
          refine ⟨((ke2).trans (KeepsOthers.setCell _ _ _)).from _, KpS.put8 kp2 g8 (.inr (.inr rfl)), ⟨⟨?_, ?_, ?_⟩, ?_⟩⟩
          · rw [HL2.out]; exact k6
          · rw [HM2.out]; exact k7
          · rw [HNE.out]; exact k8
          · exact below_set (HBl.out.trans kp2.1) g8
  case done =>
    rintro D zs W hD rfl ⟨⟨hL, hM, _⟩, hBl⟩ hK
    obtain ⟨L, hLe⟩ : ∃ L, leastP (vals (gridG (stopsL X a0 a1) (stopsL Y b0 b1) (fG X Y V))) = L := ⟨_, rfl⟩
    obtain ⟨M, hMe⟩ : ∃ M, mostP (vals (gridG (stopsL X a0 a1) (stopsL Y b0 b1) (fG X Y V))) = M := ⟨_, rfl⟩
    rw [hLe] at hL
    rw [hMe] at hM
    have HLe := Aside0.mk hLe
    have HMe := Aside0.mk hMe
    clear hLe hMe
    have HL := Aside0.mk hL
    have HM := Aside0.mk hM
    have HBl := Aside0.mk hBl
    have HKD := Aside0.mk hK
    have HD := Aside0.mk hD
    have c60 : W.cell? ⟨b6, 0, none⟩ = some (.int .i64 L.x) := (blk_cell hL 0).trans rfl
    have c61 : W.cell? ⟨b6, 1, none⟩ = some (.int .i64 L.y) := (blk_cell hL 1).trans rfl
    have c62 : W.cell? ⟨b6, 2, none⟩ = some (.int .i64 L.n) := (blk_cell hL 2).trans rfl
    have c63 : W.cell? ⟨b6, 3, none⟩ = some (.int .i64 L.d) := (blk_cell hL 3).trans rfl
    have c70 : W.cell? ⟨b7, 0, none⟩ = some (.int .i64 M.x) := (blk_cell hM 0).trans rfl
    have c71 : W.cell? ⟨b7, 1, none⟩ = some (.int .i64 M.y) := (blk_cell hM 1).trans rfl
    have c72 : W.cell? ⟨b7, 2, none⟩ = some (.int .i64 M.n) := (blk_cell hM 2).trans rfl
    have c73 : W.cell? ⟨b7, 3, none⟩ = some (.int .i64 M.d) := (blk_cell hM 3).trans rfl
    have n67 : ¬ (b6 = b7) := by have := HO.out; omega
    have n76 : ¬ (b7 = b6) := by have := HO.out; omega
    have f60 := blk_frozen hL 0
    have f61 := blk_frozen hL 1
    have f62 := blk_frozen hL 2
    have f63 := blk_frozen hL 3
    have f70 := blk_frozen hM 0
    have f71 := blk_frozen hM 1
    have f72 := blk_frozen hM 2
    have f73 := blk_frozen hM 3
    clear hL hM hBl hK hD
    gi_wp2
    gi_region
    all_goals gi_wp2
    change bodyPostM Fence.wide n Try.prog Try.f89 _ .ret _ (put4 (put4 W b6 L) b7 M).drew
    have hK' : (put4 (put4 W b6 L) b7 M).heap[D]? = some (.deferred (some [])) := (((put4_keeps W b6 L).trans (put4_keeps _ b7 M)).same D _ HKD.out rfl)
    have hKd : (put4 (put4 W b6 L) b7 M).drew.heap[D]? = some (.deferred (some [])) := blk_drew hK'
    refine ⟨by simp, .inl ⟨_, _, rfl, run_takeDeferred hKd, ?_⟩⟩
    have k6 := blk_drew (put4_far M (put4_same L HL.out) n67)
    have k7 := blk_drew (put4_same M (put4_far L HM.out n76))
    have q6 := blk_grown (w := (put4 (put4 W b6 L) b7 M).drew) (w1 := (put4 (put4 W b6 L) b7 M).drew.putObj D (.deferred none)) (row := some D) k6 (grownBy_putObj' _ D (.deferred none)) (fun e => by cases e; rw [hKd] at k6; cases k6)
    have q7 := blk_grown (w := (put4 (put4 W b6 L) b7 M).drew) (w1 := (put4 (put4 W b6 L) b7 M).drew.putObj D (.deferred none)) (row := some D) k7 (grownBy_putObj' _ D (.deferred none)) (fun e => by cases e; rw [hKd] at k7; cases k7)
    have hb4 : Below w.heap.size w (put4 (put4 W b6 L) b7 M).drew := below_drew (put4_below M (put4_below L HBl.out (by have := HO.out; omega)) (by have := HO.out; omega))
    refine ⟨_, results_cc (p := 6) (p' := 7) (ty := 133) (ty' := 133) rfl _ _ b6 b7 133 133 _ _ (0, 0) (0, 0) _ _ rfl q6 rfl rfl rfl rfl q7 rfl rfl rfl, ⟨?_, ?_⟩⟩
    · rw [HLe.out, HMe.out]
    · exact hb4.trans (belowK_b HB.out.size _ D (.deferred (some [])) (.deferred none) HD.out hKd rfl rfl)
  case stop =>
    rintro D c pre W _ _ h _
    exact h.elim
end Go.Proofs.Yteodlmgmmpkpoaa.PS
end
section
namespace Go.Proofs.Yteodlmgmmpkpoaa.PS
open Go.RowKit Go.Shelf Go.Proofs.YteodlmgmmpkpoaaW.PrintWords Go.Proofs.YteodlmgmmpkpoaaW.PrintLast Go.Proofs.YteodlmgmmpkpoaaW.PrintMore
set_option linter.unusedVariables false
theorem vals_grid (xs ys : List Int) (f : Int → Int → GP) (g : Int → Int → Pt) (h : ∀ x ∈ xs, ∀ y ∈ ys, (f x y).1 = g x y) : vals (gridG xs ys f) = gridL xs ys g := by
  unfold vals gridG gridL
  induction xs with
  | nil => rfl
  | cons a l ih =>
    rw [List.flatMap_cons, List.flatMap_cons, List.map_append, ih (fun x hx => h x (List.mem_cons_of_mem _ hx)), List.map_map]
    congr 1
    exact List.map_congr_left fun y hy => h a (List.mem_cons_self) y hy
theorem okS_le {lo hi : Int} (h : okS lo hi = true) : lo ≤ hi := by
  unfold okS at h
  simp only [Bool.and_eq_true, decide_eq_true_eq] at h
  omega
theorem pts_vals {X Y : List Int} {V : List (List Int)} {a0 a1 b0 b1 : Int} (ht : tableB X Y V = true) (hxon : onB X a0 a1 = true) (hyon : onB Y b0 b1 = true) (hxle : a0 ≤ a1) (hyle : b0 ≤ b1) :
    vals (gridG (stopsL X a0 a1) (stopsL Y b0 b1) (fG X Y V)) = ptsL X Y V a0 a1 b0 b1 :=
  vals_grid _ _ _ _ fun x hx y hy => fG_val (tb_of ht) (stops_on hxon hxle hx).1 (stops_on hyon hyle hy).1
theorem spans_extremes.calls (A0_0 : Option Addr) (c0_0 : Nat) (l0_0 : List Int) (A0_1 : Option Addr) (c0_1 : Nat) (l0_1 : List Int) (A0_2 : Option Addr) (c0_2 : Nat) (l0_2 : List (List Int)) (a1_0 : Int) (a1_1 : Int) (a2_0 : Int) (a2_1 : Int) (r1 : Int) (r2 : Int) (r3 : Int) (r4 : Int) (r5 : Int) (r6 : Int) (r7 : Int) (r8 : Int) (w : World) (hr0_0 : Kd.C (Kd.int .i64) w A0_0 l0_0.length l0_0) (hc0_0 : l0_0.length ≤ c0_0) (hr0_1 : Kd.C (Kd.int .i64) w A0_1 l0_1.length l0_1) (hc0_1 : l0_1.length ≤ c0_1) (hr0_2 : Kd.C (Kd.slice 3 (Kd.int .i64)) w A0_2 l0_2.length l0_2) (hc0_2 : l0_2.length ≤ c0_2) (h : spans_extremes.f l0_0 l0_1 l0_2 a1_0 a1_1 a2_0 a2_1 = some (r1, r2, r3, r4, r5, r6, r7, r8)) :
    Calls Try.prog 89 #[.agg #[.slice A0_0 l0_0.length c0_0, .slice A0_1 l0_1.length c0_1, .slice A0_2 l0_2.length c0_2], .agg #[.int .i64 a1_0, .int .i64 a1_1], .agg #[.int .i64 a2_0, .int .i64 a2_1]] w fun e w' => e = .returned (.tuple #[.agg #[.int .i64 r1, .int .i64 r2, .int .i64 r3, .int .i64 r4], .agg #[.int .i64 r5, .int .i64 r6, .int .i64 r7, .int .i64 r8]]) ∧ Below w.heap.size w w' := by
  unfold spans_extremes.f at h
  by_cases hp : pointsB l0_0 l0_1 l0_2 a1_0 a1_1 a2_0 a2_1 = true
  · rw [if_pos hp] at h
    have hpb := hp
    unfold pointsB at hpb
    simp only [Bool.and_eq_true] at hpb
    obtain ⟨⟨ht, ho0, ho1⟩, hx, hy⟩ := hpb
    have hc := callsIn_wide.1 (extremes_in 6 (Nat.le_refl _) A0_0 c0_0 A0_1 c0_1 A0_2 c0_2 l0_0 l0_1 l0_2 a1_0 a1_1 a2_0 a2_1 ht hx hy (okS_le ho0) (okS_le ho1) w hr0_0 hc0_0 hr0_1 hc0_1 hr0_2 hc0_2)
    rw [pts_vals ht hx hy (okS_le ho0) (okS_le ho1)] at hc
    simp only [Option.some.injEq, Prod.mk.injEq] at h
    obtain ⟨rfl, rfl, rfl, rfl, rfl, rfl, rfl, rfl⟩ := h
    exact hc
  · rw [if_neg hp] at h
    cases h
end Go.Proofs.Yteodlmgmmpkpoaa.PS
end
section
namespace Go.Proofs.Yteodlmgmmpkpoaa.PS
open Go.RowKit Go.Proofs.YteodlmgmmpkpoaaW.PrintWords Go.Proofs.YteodlmgmmpkpoaaW.PrintLast Go.Proofs.YteodlmgmmpkpoaaW.PrintMore
attribute [local go_sem] max2_int min2_int max_two min_two max_three min_three max_four min_four   -- for this text's walks alone
set_option linter.unusedVariables false
set_option linter.unusedSimpArgs false
def spans_Bound.f (l0_0 : List Int) (l0_1 : List Int) (l0_2 : List (List Int)) (a1_0 : Int) (a1_1 : Int) (a2_0 : Int) (a2_1 : Int) : Option (Int × Int × Int) := (spans_checkPoints.f l0_0 l0_1 l0_2 a1_0 a1_1 a2_0 a2_1).bind fun t242 => (if t242 = 0 then ((spans_extremes.f l0_0 l0_1 l0_2 a1_0 a1_1 a2_0 a2_1).bind fun bt243 => ((spans_floor.f bt243.2.2.1 bt243.2.2.2.1).bind fun t253 => ((spans_value_up.f bt243.2.2.2.2.2.2.1 bt243.2.2.2.2.2.2.2).bind fun t254 => (some (t253, t254, 0))))) else (some (0, 0, t242)))
def spans_Bound.T5 : Bool × List (List Nat × List Nat) := (true, [([], []), ([0], [0]), ([1], [1]), ([], []), ([3], [3]), ([4], [4]), ([2, 5], [2, 5]), ([], []), ([7], [7]), ([8, 6], [8]), ([6, 9], [6, 9]), ([10, 9, 0, 1, 2, 3, 4, 5, 6, 7, 8, 9, 10], [10]), ([11, 0, 1, 2, 3, 4, 5, 6, 7, 8, 9, 10, 11], [])])
def spans_Bound.B5 : List Nat := [0, 1, 3, 0, 8, 24, 63, 0, 128, 511, 1023, 2047, 4095]
theorem spans_Bound.tab5 : rtab .any (opsOf Try.f30 5) = spans_Bound.T5 := by kernel_rfl
theorem spans_Bound.bits5 : waitsOk spans_Bound.T5.2 spans_Bound.B5 = true := by kernel_rfl
set_option maxHeartbeats 8000000 in
set_option maxRecDepth 100000 in
theorem spans_Bound.calls (A0_0 : Option Addr) (c0_0 : Nat) (l0_0 : List Int) (A0_1 : Option Addr) (c0_1 : Nat) (l0_1 : List Int) (A0_2 : Option Addr) (c0_2 : Nat) (l0_2 : List (List Int)) (a1_0 : Int) (a1_1 : Int) (a2_0 : Int) (a2_1 : Int) (r1 : Int) (r2 : Int) (r3 : Int) (w : World) (hr0_0 : Kd.C (Kd.int .i64) w A0_0 l0_0.length l0_0) (hc0_0 : l0_0.length ≤ c0_0) (hr0_1 : Kd.C (Kd.int .i64) w A0_1 l0_1.length l0_1) (hc0_1 : l0_1.length ≤ c0_1) (hr0_2 : Kd.C (Kd.slice 3 (Kd.int .i64)) w A0_2 l0_2.length l0_2) (hc0_2 : l0_2.length ≤ c0_2) (h : spans_Bound.f l0_0 l0_1 l0_2 a1_0 a1_1 a2_0 a2_1 = some (r1, r2, r3)) :
    Calls Try.prog 30 #[.agg #[.slice A0_0 l0_0.length c0_0, .slice A0_1 l0_1.length c0_1, .slice A0_2 l0_2.length c0_2], .agg #[.int .i64 a1_0, .int .i64 a1_1], .agg #[.int .i64 a2_0, .int .i64 a2_1]] w fun e w' => e = .returned (.tuple #[.agg #[.int .i64 r1, .int .i64 r2], .int .i64 r3]) ∧ Below w.heap.size w w' := by
  have hu25 := Try.underlying25
  have hu27 := Try.underlying27
  have hu133 := Try.underlying133
  have hu131 := Try.underlying131
  have HR0_0 := Aside0.mk hr0_0
  have HC0_0 := Aside0.mk hc0_0
  clear hr0_0 hc0_0
  have HR0_1 := Aside0.mk hr0_1
  have HC0_1 := Aside0.mk hc0_1
  clear hr0_1 hc0_1
  have HR0_2 := Aside0.mk hr0_2
  have HC0_2 := Aside0.mk hc0_2
  clear hr0_2 hc0_2
  have HB := Aside0.mk (Below.refl w.heap.size w)
  have H : ((spans_checkPoints.f l0_0 l0_1 l0_2 a1_0 a1_1 a2_0 a2_1).bind fun t242 => (if t242 = 0 then ((spans_extremes.f l0_0 l0_1 l0_2 a1_0 a1_1 a2_0 a2_1).bind fun bt243 => ((spans_floor.f bt243.2.2.1 bt243.2.2.2.1).bind fun t253 => ((spans_value_up.f bt243.2.2.2.2.2.2.1 bt243.2.2.2.2.2.2.2).bind fun t254 => (some (t253, t254, 0))))) else (some (0, 0, t242)))) = some (r1, r2, r3) := h
  clear h
  replace H := Option.bind_eq_some_iff.mp H
  obtain ⟨t242, A40, H⟩ := H
  replace H : (if t242 = 0 then ((spans_extremes.f l0_0 l0_1 l0_2 a1_0 a1_1 a2_0 a2_1).bind fun bt243 => ((spans_floor.f bt243.2.2.1 bt243.2.2.2.1).bind fun t253 => ((spans_value_up.f bt243.2.2.2.2.2.2.1 bt243.2.2.2.2.2.2.2).bind fun t254 => (some (t253, t254, 0))))) else (some (0, 0, t242))) = some (r1, r2, r3) := H
  have A4 := Aside0.mk A40
  clear A40
  by_cases c5 : t242 = 0
  · rw [if_pos c5] at H
    have c5b0 : (t242 == 0) = true := beq_iff_eq.mpr c5
    have c5b1 : (t242 != 0) = false := bne_eq_false_iff_eq.mpr c5
    clear c5
    replace H := Option.bind_eq_some_iff.mp H
    obtain ⟨⟨t243, t244, t245, t246, t247, t248, t249, t250⟩, A60, H⟩ := H
    replace H : ((spans_floor.f t245 t246).bind fun t253 => ((spans_value_up.f t249 t250).bind fun t254 => (some (t253, t254, 0)))) = some (r1, r2, r3) := H
    have A6 := Aside0.mk A60
    clear A60
    replace H := Option.bind_eq_some_iff.mp H
    obtain ⟨t253, A70, H⟩ := H
    replace H : ((spans_value_up.f t249 t250).bind fun t254 => (some (t253, t254, 0))) = some (r1, r2, r3) := H
    have A7 := Aside0.mk A70
    clear A70
    replace H := Option.bind_eq_some_iff.mp H
    obtain ⟨t254, A80, H⟩ := H
    replace H : (some (t253, t254, 0)) = some (r1, r2, r3) := H
    have A8 := Aside0.mk A80
    clear A80
    simp only [Option.some.injEq, Prod.mk.injEq] at H
    obtain ⟨rfl, rfl, rfl⟩ := H
    go_enter Try.func30, Try.ntmps30
    try go_wp2_with (first | ((with_reducible refine gate_dst (N := 3) rfl ?_); refine box_event ?hg (N := 3) ?hd (cs := #[.slice A0_0 l0_0.length c0_0, .slice A0_1 l0_1.length c0_1, .slice A0_2 l0_2.length c0_2]) (t := 25) ?hr ?_; (case hd => rfl); (case hg => rfl); (case hr => first | (go_simp; done) | (go_simp; rfl)); intro gb238 hg w9 hbox hb; have n0_ := Aside0.mk (below_step (by repeat (first | (with_reducible first | exact HB.out | apply below_alloc | apply pw_below_drewN | apply below_drew1) | exact HB.out)) hb); have n1_ := Aside0.mk (hbox); have n2_ := Aside0.mk ((by rw [hg]; exact (below_size (by repeat (first | (with_reducible first | exact HB.out | apply below_alloc | apply pw_below_drewN | apply below_drew1) | exact HB.out))) : w.heap.size ≤ gb238)); have n3_ := Aside0.mk ((by rw [hg]; exact (below_size (by repeat (first | (with_reducible first | exact HB.out | apply below_alloc | apply pw_below_drewN | apply below_drew1) | exact HB.out))) : w.heap.size ≤ gb238)); clear HB; have HB := n0_; have BK238 := n1_; have GW238 := n2_; have GE238 := n3_; clear n0_ n1_ n2_ n3_; clear hb hbox hg) | ((with_reducible refine gate_dst (N := 4) rfl ?_); refine box_event ?hg (N := 4) ?hd (cs := #[.int .i64 a1_0, .int .i64 a1_1]) (t := 27) ?hr ?_; (case hd => rfl); (case hg => rfl); (case hr => first | (go_simp; done) | (go_simp; rfl)); intro gb239 hg w10 hbox hb; have n0_ := Aside0.mk (blk_below (g := gb238) (o := .cells #[.slice A0_0 l0_0.length c0_0, .slice A0_1 l0_1.length c0_1, .slice A0_2 l0_2.length c0_2] 25 (0, 0)) (by (with_reducible repeat (first | refine blk_drewN ?_ _ | refine blk_drew ?_ | refine blk_alloc ?_ _)); exact BK238.out) hb); have n1_ := Aside0.mk (below_step (by repeat (first | (with_reducible first | exact HB.out | apply below_alloc | apply pw_below_drewN | apply below_drew1 | refine below_set ?_ GE238.out) | exact HB.out)) hb); have n2_ := Aside0.mk (hbox); have n3_ := Aside0.mk ((by rw [hg]; exact (below_size (by repeat (first | (with_reducible first | exact HB.out | apply below_alloc | apply pw_below_drewN | apply below_drew1 | refine below_set ?_ GE238.out) | exact HB.out))) : w.heap.size ≤ gb239)); have n4_ := Aside0.mk ((by rw [hg]; exact (below_size (by repeat (first | (with_reducible first | exact HB.out | apply below_alloc | apply pw_below_drewN | apply below_drew1 | refine below_set ?_ GE238.out) | exact HB.out))) : w.heap.size ≤ gb239)); have n5_ := Aside0.mk ((by rw [hg]; exact Nat.ne_of_lt (blk_lt (g := gb238) (o := .cells #[.slice A0_0 l0_0.length c0_0, .slice A0_1 l0_1.length c0_1, .slice A0_2 l0_2.length c0_2] 25 (0, 0)) (by (with_reducible repeat (first | refine blk_drewN ?_ _ | refine blk_drew ?_ | refine blk_alloc ?_ _)); exact BK238.out)) : gb238 ≠ gb239)); have n6_ := Aside0.mk ((by rw [hg]; exact Nat.ne_of_gt (blk_lt (g := gb238) (o := .cells #[.slice A0_0 l0_0.length c0_0, .slice A0_1 l0_1.length c0_1, .slice A0_2 l0_2.length c0_2] 25 (0, 0)) (by (with_reducible repeat (first | refine blk_drewN ?_ _ | refine blk_drew ?_ | refine blk_alloc ?_ _)); exact BK238.out)) : gb239 ≠ gb238)); clear BK238; clear HB; have BK238 := n0_; have HB := n1_; have BK239 := n2_; have GW239 := n3_; have GE239 := n4_; have NB238_239 := n5_; have NB239_238 := n6_; clear n0_ n1_ n2_ n3_ n4_ n5_ n6_; clear hb hbox hg) | ((with_reducible refine gate_dst (N := 5) rfl ?_); refine box_event ?hg (N := 5) ?hd (cs := #[.int .i64 a2_0, .int .i64 a2_1]) (t := 27) ?hr ?_; (case hd => rfl); (case hg => rfl); (case hr => first | (go_simp; done) | (go_simp; rfl)); intro gb240 hg w11 hbox hb; have n0_ := Aside0.mk (blk_below (g := gb238) (o := .cells #[.slice A0_0 l0_0.length c0_0, .slice A0_1 l0_1.length c0_1, .slice A0_2 l0_2.length c0_2] 25 (0, 0)) (by (with_reducible repeat (first | refine blk_drewN ?_ _ | refine blk_drew ?_ | refine blk_alloc ?_ _)); exact BK238.out) hb); have n1_ := Aside0.mk (blk_below (g := gb239) (o := .cells #[.int .i64 a1_0, .int .i64 a1_1] 27 (0, 0)) (by (with_reducible repeat (first | refine blk_drewN ?_ _ | refine blk_drew ?_ | refine blk_alloc ?_ _)); exact BK239.out) hb); have n2_ := Aside0.mk (below_step (by repeat (first | (with_reducible first | exact HB.out | apply below_alloc | apply pw_below_drewN | apply below_drew1 | refine below_set ?_ GE238.out | refine below_set ?_ GE239.out) | exact HB.out)) hb); have n3_ := Aside0.mk (hbox); have n4_ := Aside0.mk ((by rw [hg]; exact (below_size (by repeat (first | (with_reducible first | exact HB.out | apply below_alloc | apply pw_below_drewN | apply below_drew1 | refine below_set ?_ GE238.out | refine below_set ?_ GE239.out) | exact HB.out))) : w.heap.size ≤ gb240)); have n5_ := Aside0.mk ((by rw [hg]; exact (below_size (by repeat (first | (with_reducible first | exact HB.out | apply below_alloc | apply pw_below_drewN | apply below_drew1 | refine below_set ?_ GE238.out | refine below_set ?_ GE239.out) | exact HB.out))) : w.heap.size ≤ gb240)); have n6_ := Aside0.mk ((by rw [hg]; exact Nat.ne_of_lt (blk_lt (g := gb238) (o := .cells #[.slice A0_0 l0_0.length c0_0, .slice A0_1 l0_1.length c0_1, .slice A0_2 l0_2.length c0_2] 25 (0, 0)) (by (with_reducible repeat (first | refine blk_drewN ?_ _ | refine blk_drew ?_ | refine blk_alloc ?_ _)); exact BK238.out)) : gb238 ≠ gb240)); have n7_ := Aside0.mk ((by rw [hg]; exact Nat.ne_of_gt (blk_lt (g := gb238) (o := .cells #[.slice A0_0 l0_0.length c0_0, .slice A0_1 l0_1.length c0_1, .slice A0_2 l0_2.length c0_2] 25 (0, 0)) (by (with_reducible repeat (first | refine blk_drewN ?_ _ | refine blk_drew ?_ | refine blk_alloc ?_ _)); exact BK238.out)) : gb240 ≠ gb238)); have n8_ := Aside0.mk ((by rw [hg]; exact Nat.ne_of_lt (blk_lt (g := gb239) (o := .cells #[.int .i64 a1_0, .int .i64 a1_1] 27 (0, 0)) (by (with_reducible repeat (first | refine blk_drewN ?_ _ | refine blk_drew ?_ | refine blk_alloc ?_ _)); exact BK239.out)) : gb239 ≠ gb240)); have n9_ := Aside0.mk ((by rw [hg]; exact Nat.ne_of_gt (blk_lt (g := gb239) (o := .cells #[.int .i64 a1_0, .int .i64 a1_1] 27 (0, 0)) (by (with_reducible repeat (first | refine blk_drewN ?_ _ | refine blk_drew ?_ | refine blk_alloc ?_ _)); exact BK239.out)) : gb240 ≠ gb239)); clear BK238; clear BK239; clear HB; have BK238 := n0_; have BK239 := n1_; have HB := n2_; have BK240 := n3_; have GW240 := n4_; have GE240 := n5_; have NB238_240 := n6_; have NB240_238 := n7_; have NB239_240 := n8_; have NB240_239 := n9_; clear n0_ n1_ n2_ n3_ n4_ n5_ n6_ n7_ n8_ n9_; clear hb hbox hg) | ((with_reducible refine gate_dst (N := 6) rfl ?_); refine box_event ?hg (N := 6) ?hd (cs := #[.int .i64 0, .int .i64 0]) (t := 27) ?hr ?_; (case hd => rfl); (case hg => rfl); (case hr => first | (go_simp; done) | (go_simp; rfl)); intro gb241 hg w12 hbox hb; have n0_ := Aside0.mk (blk_below (g := gb238) (o := .cells #[.slice A0_0 l0_0.length c0_0, .slice A0_1 l0_1.length c0_1, .slice A0_2 l0_2.length c0_2] 25 (0, 0)) (by (with_reducible repeat (first | refine blk_drewN ?_ _ | refine blk_drew ?_ | refine blk_alloc ?_ _)); exact BK238.out) hb); have n1_ := Aside0.mk (blk_below (g := gb239) (o := .cells #[.int .i64 a1_0, .int .i64 a1_1] 27 (0, 0)) (by (with_reducible repeat (first | refine blk_drewN ?_ _ | refine blk_drew ?_ | refine blk_alloc ?_ _)); exact BK239.out) hb); have n2_ := Aside0.mk (blk_below (g := gb240) (o := .cells #[.int .i64 a2_0, .int .i64 a2_1] 27 (0, 0)) (by (with_reducible repeat (first | refine blk_drewN ?_ _ | refine blk_drew ?_ | refine blk_alloc ?_ _)); exact BK240.out) hb); have n3_ := Aside0.mk (below_step (by repeat (first | (with_reducible first | exact HB.out | apply below_alloc | apply pw_below_drewN | apply below_drew1 | refine below_set ?_ GE238.out | refine below_set ?_ GE239.out | refine below_set ?_ GE240.out) | exact HB.out)) hb); have n4_ := Aside0.mk (hbox); have n5_ := Aside0.mk ((by rw [hg]; exact (below_size (by repeat (first | (with_reducible first | exact HB.out | apply below_alloc | apply pw_below_drewN | apply below_drew1 | refine below_set ?_ GE238.out | refine below_set ?_ GE239.out | refine below_set ?_ GE240.out) | exact HB.out))) : w.heap.size ≤ gb241)); have n6_ := Aside0.mk ((by rw [hg]; exact (below_size (by repeat (first | (with_reducible first | exact HB.out | apply below_alloc | apply pw_below_drewN | apply below_drew1 | refine below_set ?_ GE238.out | refine below_set ?_ GE239.out | refine below_set ?_ GE240.out) | exact HB.out))) : w.heap.size ≤ gb241)); have n7_ := Aside0.mk ((by rw [hg]; exact Nat.ne_of_lt (blk_lt (g := gb238) (o := .cells #[.slice A0_0 l0_0.length c0_0, .slice A0_1 l0_1.length c0_1, .slice A0_2 l0_2.length c0_2] 25 (0, 0)) (by (with_reducible repeat (first | refine blk_drewN ?_ _ | refine blk_drew ?_ | refine blk_alloc ?_ _)); exact BK238.out)) : gb238 ≠ gb241)); have n8_ := Aside0.mk ((by rw [hg]; exact Nat.ne_of_gt (blk_lt (g := gb238) (o := .cells #[.slice A0_0 l0_0.length c0_0, .slice A0_1 l0_1.length c0_1, .slice A0_2 l0_2.length c0_2] 25 (0, 0)) (by (with_reducible repeat (first | refine blk_drewN ?_ _ | refine blk_drew ?_ | refine blk_alloc ?_ _)); exact BK238.out)) : gb241 ≠ gb238)); have n9_ := Aside0.mk ((by rw [hg]; exact Nat.ne_of_lt (blk_lt (g := gb239) (o := .cells #[.int .i64 a1_0, .int .i64 a1_1] 27 (0, 0)) (by (with_reducible repeat (first | refine blk_drewN ?_ _ | refine blk_drew ?_ | refine blk_alloc ?_ _)); exact BK239.out)) : gb239 ≠ gb241)); have n10_ := Aside0.mk ((by rw [hg]; exact Nat.ne_of_gt (blk_lt (g := gb239) (o := .cells #[.int .i64 a1_0, .int .i64 a1_1] 27 (0, 0)) (by (with_reducible repeat (first | refine blk_drewN ?_ _ | refine blk_drew ?_ | refine blk_alloc ?_ _)); exact BK239.out)) : gb241 ≠ gb239)); have n11_ := Aside0.mk ((by rw [hg]; exact Nat.ne_of_lt (blk_lt (g := gb240) (o := .cells #[.int .i64 a2_0, .int .i64 a2_1] 27 (0, 0)) (by (with_reducible repeat (first | refine blk_drewN ?_ _ | refine blk_drew ?_ | refine blk_alloc ?_ _)); exact BK240.out)) : gb240 ≠ gb241)); have n12_ := Aside0.mk ((by rw [hg]; exact Nat.ne_of_gt (blk_lt (g := gb240) (o := .cells #[.int .i64 a2_0, .int .i64 a2_1] 27 (0, 0)) (by (with_reducible repeat (first | refine blk_drewN ?_ _ | refine blk_drew ?_ | refine blk_alloc ?_ _)); exact BK240.out)) : gb241 ≠ gb240)); clear BK238; clear BK239; clear BK240; clear HB; have BK238 := n0_; have BK239 := n1_; have BK240 := n2_; have HB := n3_; have BK241 := n4_; have GW241 := n5_; have GE241 := n6_; have NB238_241 := n7_; have NB241_238 := n8_; have NB239_241 := n9_; have NB241_239 := n10_; have NB240_241 := n11_; have NB241_240 := n12_; clear n0_ n1_ n2_ n3_ n4_ n5_ n6_ n7_ n8_ n9_ n10_ n11_ n12_; clear hb hbox hg; have hnb13 := NB238_239.out; have hnc13 := NB239_238.out; have hnb14 := NB238_240.out; have hnc14 := NB240_238.out; have hnb15 := NB238_241.out; have hnc15 := NB241_238.out; have hcz16_0 : w12.cell? ⟨gb238, 0, none⟩ = some (.slice A0_0 l0_0.length c0_0) := (blk_cell BK238.out 0).trans rfl; have hcz16_1 : w12.cell? ⟨gb238, 1, none⟩ = some (.slice A0_1 l0_1.length c0_1) := (blk_cell BK238.out 1).trans rfl; have hcz16_2 : w12.cell? ⟨gb238, 2, none⟩ = some (.slice A0_2 l0_2.length c0_2) := (blk_cell BK238.out 2).trans rfl; have hfz16_0 := blk_frozen BK238.out 0; have hfz16_1 := blk_frozen BK238.out 1; have hfz16_2 := blk_frozen BK238.out 2; have hnb17 := NB239_240.out; have hnc17 := NB240_239.out; have hnb18 := NB239_241.out; have hnc18 := NB241_239.out; have hcz19_0 : w12.cell? ⟨gb239, 0, none⟩ = some (.int .i64 a1_0) := (blk_cell BK239.out 0).trans rfl; have hcz19_1 : w12.cell? ⟨gb239, 1, none⟩ = some (.int .i64 a1_1) := (blk_cell BK239.out 1).trans rfl; have hfz19_0 := blk_frozen BK239.out 0; have hfz19_1 := blk_frozen BK239.out 1; have hnb20 := NB240_241.out; have hnc20 := NB241_240.out; have hcz21_0 : w12.cell? ⟨gb240, 0, none⟩ = some (.int .i64 a2_0) := (blk_cell BK240.out 0).trans rfl; have hcz21_1 : w12.cell? ⟨gb240, 1, none⟩ = some (.int .i64 a2_1) := (blk_cell BK240.out 1).trans rfl; have hfz21_0 := blk_frozen BK240.out 0; have hfz21_1 := blk_frozen BK240.out 1) | ((with_reducible refine gate_callee (f := 88) rfl ?_); refine goesL_ (some 14) rfl rfl Try.func88 (by kernel_rfl) rfl #[.agg #[.slice A0_0 l0_0.length c0_0, .slice A0_1 l0_1.length c0_1, .slice A0_2 l0_2.length c0_2], .agg #[.int .i64 a1_0, .int .i64 a1_1], .agg #[.int .i64 a2_0, .int .i64 a2_1]] rfl (by (try simp only [List.map_toArray, List.map_cons, List.map_nil]); first | done | rfl | (simp only [List.length_drop, List.length_take]; rfl)) ?_; (with_reducible refine (spans_checkPoints.calls _ _ l0_0 _ _ l0_1 _ _ l0_2 a1_0 a1_1 a2_0 a2_1 t242 _ ?side1 ?side2 ?side3 ?side4 ?side5 ?side6 A4.out).mono ?_); (case side1 => repeat (first | exact (Kd.C_below HR0_0.out HB.out) | (with_reducible refine Kd.C_alloc ?_ _) | (with_reducible refine Kd.C_drewN ?_ _) | (with_reducible refine Kd.C_drew ?_))); (case side2 => exact HC0_0.out); (case side3 => repeat (first | exact (Kd.C_below HR0_1.out HB.out) | (with_reducible refine Kd.C_alloc ?_ _) | (with_reducible refine Kd.C_drewN ?_ _) | (with_reducible refine Kd.C_drew ?_))); (case side4 => exact HC0_1.out); (case side5 => repeat (first | exact (Kd.C_below HR0_2.out HB.out) | (with_reducible refine Kd.C_alloc ?_ _) | (with_reducible refine Kd.C_drewN ?_ _) | (with_reducible refine Kd.C_drew ?_))); (case side6 => exact HC0_2.out); rintro e w22 ⟨rfl, hb⟩; refine ⟨_, rfl, ?_⟩; have n0_ := Aside0.mk (blk_below (g := gb238) (o := .cells #[.slice A0_0 l0_0.length c0_0, .slice A0_1 l0_1.length c0_1, .slice A0_2 l0_2.length c0_2] 25 (0, 0)) (by (with_reducible repeat (first | refine blk_drewN ?_ _ | refine blk_drew ?_ | refine blk_alloc ?_ _)); exact BK238.out) hb); have n1_ := Aside0.mk (blk_below (g := gb239) (o := .cells #[.int .i64 a1_0, .int .i64 a1_1] 27 (0, 0)) (by (with_reducible repeat (first | refine blk_drewN ?_ _ | refine blk_drew ?_ | refine blk_alloc ?_ _)); exact BK239.out) hb); have n2_ := Aside0.mk (blk_below (g := gb240) (o := .cells #[.int .i64 a2_0, .int .i64 a2_1] 27 (0, 0)) (by (with_reducible repeat (first | refine blk_drewN ?_ _ | refine blk_drew ?_ | refine blk_alloc ?_ _)); exact BK240.out) hb); have n3_ := Aside0.mk (blk_below (g := gb241) (o := .cells #[.int .i64 0, .int .i64 0] 27 (0, 0)) (by (with_reducible repeat (first | refine blk_drewN ?_ _ | refine blk_drew ?_ | refine blk_alloc ?_ _)); exact BK241.out) hb); have n4_ := Aside0.mk (below_step (by repeat (first | (with_reducible first | exact HB.out | apply below_alloc | apply pw_below_drewN | apply below_drew1 | refine below_set ?_ GE238.out | refine below_set ?_ GE239.out | refine below_set ?_ GE240.out | refine below_set ?_ GE241.out) | exact HB.out)) hb); clear BK238; clear BK239; clear BK240; clear BK241; clear HB; have BK238 := n0_; have BK239 := n1_; have BK240 := n2_; have BK241 := n3_; have HB := n4_; clear n0_ n1_ n2_ n3_ n4_; (try clear hb); (try clear hb2); (try clear hk); (try clear hi); have hcz23_0 : w22.cell? ⟨gb238, 0, none⟩ = some (.slice A0_0 l0_0.length c0_0) := (blk_cell BK238.out 0).trans rfl; have hcz23_1 : w22.cell? ⟨gb238, 1, none⟩ = some (.slice A0_1 l0_1.length c0_1) := (blk_cell BK238.out 1).trans rfl; have hcz23_2 : w22.cell? ⟨gb238, 2, none⟩ = some (.slice A0_2 l0_2.length c0_2) := (blk_cell BK238.out 2).trans rfl; have hfz23_0 := blk_frozen BK238.out 0; have hfz23_1 := blk_frozen BK238.out 1; have hfz23_2 := blk_frozen BK238.out 2; have hcz24_0 : w22.cell? ⟨gb239, 0, none⟩ = some (.int .i64 a1_0) := (blk_cell BK239.out 0).trans rfl; have hcz24_1 : w22.cell? ⟨gb239, 1, none⟩ = some (.int .i64 a1_1) := (blk_cell BK239.out 1).trans rfl; have hfz24_0 := blk_frozen BK239.out 0; have hfz24_1 := blk_frozen BK239.out 1; have hcz25_0 : w22.cell? ⟨gb240, 0, none⟩ = some (.int .i64 a2_0) := (blk_cell BK240.out 0).trans rfl; have hcz25_1 : w22.cell? ⟨gb240, 1, none⟩ = some (.int .i64 a2_1) := (blk_cell BK240.out 1).trans rfl; have hfz25_0 := blk_frozen BK240.out 0; have hfz25_1 := blk_frozen BK240.out 1) | ((with_reducible refine gate_callee (f := 89) rfl ?_); refine goesL_ (some 23) rfl rfl Try.func89 (by kernel_rfl) rfl #[.agg #[.slice A0_0 l0_0.length c0_0, .slice A0_1 l0_1.length c0_1, .slice A0_2 l0_2.length c0_2], .agg #[.int .i64 a1_0, .int .i64 a1_1], .agg #[.int .i64 a2_0, .int .i64 a2_1]] rfl (by (try simp only [List.map_toArray, List.map_cons, List.map_nil]); first | done | rfl | (simp only [List.length_drop, List.length_take]; rfl)) ?_; (with_reducible refine (spans_extremes.calls _ _ l0_0 _ _ l0_1 _ _ l0_2 a1_0 a1_1 a2_0 a2_1 t243 t244 t245 t246 t247 t248 t249 t250 _ ?side1 ?side2 ?side3 ?side4 ?side5 ?side6 A6.out).mono ?_); (case side1 => repeat (first | exact (Kd.C_below HR0_0.out HB.out) | (with_reducible refine Kd.C_alloc ?_ _) | (with_reducible refine Kd.C_drewN ?_ _) | (with_reducible refine Kd.C_drew ?_))); (case side2 => exact HC0_0.out); (case side3 => repeat (first | exact (Kd.C_below HR0_1.out HB.out) | (with_reducible refine Kd.C_alloc ?_ _) | (with_reducible refine Kd.C_drewN ?_ _) | (with_reducible refine Kd.C_drew ?_))); (case side4 => exact HC0_1.out); (case side5 => repeat (first | exact (Kd.C_below HR0_2.out HB.out) | (with_reducible refine Kd.C_alloc ?_ _) | (with_reducible refine Kd.C_drewN ?_ _) | (with_reducible refine Kd.C_drew ?_))); (case side6 => exact HC0_2.out); rintro e w26 ⟨rfl, hb⟩; refine ⟨_, rfl, ?_⟩; have n0_ := Aside0.mk (blk_below (g := gb238) (o := .cells #[.slice A0_0 l0_0.length c0_0, .slice A0_1 l0_1.length c0_1, .slice A0_2 l0_2.length c0_2] 25 (0, 0)) (by (with_reducible repeat (first | refine blk_drewN ?_ _ | refine blk_drew ?_ | refine blk_alloc ?_ _)); exact BK238.out) hb); have n1_ := Aside0.mk (blk_below (g := gb239) (o := .cells #[.int .i64 a1_0, .int .i64 a1_1] 27 (0, 0)) (by (with_reducible repeat (first | refine blk_drewN ?_ _ | refine blk_drew ?_ | refine blk_alloc ?_ _)); exact BK239.out) hb); have n2_ := Aside0.mk (blk_below (g := gb240) (o := .cells #[.int .i64 a2_0, .int .i64 a2_1] 27 (0, 0)) (by (with_reducible repeat (first | refine blk_drewN ?_ _ | refine blk_drew ?_ | refine blk_alloc ?_ _)); exact BK240.out) hb); have n3_ := Aside0.mk (blk_below (g := gb241) (o := .cells #[.int .i64 0, .int .i64 0] 27 (0, 0)) (by (with_reducible repeat (first | refine blk_drewN ?_ _ | refine blk_drew ?_ | refine blk_alloc ?_ _)); exact BK241.out) hb); have n4_ := Aside0.mk (below_step (by repeat (first | (with_reducible first | exact HB.out | apply below_alloc | apply pw_below_drewN | apply below_drew1 | refine below_set ?_ GE238.out | refine below_set ?_ GE239.out | refine below_set ?_ GE240.out | refine below_set ?_ GE241.out) | exact HB.out)) hb); clear BK238; clear BK239; clear BK240; clear BK241; clear HB; have BK238 := n0_; have BK239 := n1_; have BK240 := n2_; have BK241 := n3_; have HB := n4_; clear n0_ n1_ n2_ n3_ n4_; (try clear hb); (try clear hb2); (try clear hk); (try clear hi)) | ((with_reducible refine gate_dst (N := 9) rfl ?_); refine box_event ?hg (N := 9) ?hd (cs := #[.int .i64 0, .int .i64 0, .int .i64 0, .int .i64 0]) (t := 133) ?hr ?_; (case hd => rfl); (case hg => rfl); (case hr => first | (go_simp; done) | (go_simp; rfl)); intro gb251 hg w27 hbox hb; have n0_ := Aside0.mk (blk_below (g := gb238) (o := .cells #[.slice A0_0 l0_0.length c0_0, .slice A0_1 l0_1.length c0_1, .slice A0_2 l0_2.length c0_2] 25 (0, 0)) (by (with_reducible repeat (first | refine blk_drewN ?_ _ | refine blk_drew ?_ | refine blk_alloc ?_ _)); exact BK238.out) hb); have n1_ := Aside0.mk (blk_below (g := gb239) (o := .cells #[.int .i64 a1_0, .int .i64 a1_1] 27 (0, 0)) (by (with_reducible repeat (first | refine blk_drewN ?_ _ | refine blk_drew ?_ | refine blk_alloc ?_ _)); exact BK239.out) hb); have n2_ := Aside0.mk (blk_below (g := gb240) (o := .cells #[.int .i64 a2_0, .int .i64 a2_1] 27 (0, 0)) (by (with_reducible repeat (first | refine blk_drewN ?_ _ | refine blk_drew ?_ | refine blk_alloc ?_ _)); exact BK240.out) hb); have n3_ := Aside0.mk (blk_below (g := gb241) (o := .cells #[.int .i64 0, .int .i64 0] 27 (0, 0)) (by (with_reducible repeat (first | refine blk_drewN ?_ _ | refine blk_drew ?_ | refine blk_alloc ?_ _)); exact BK241.out) hb); have n4_ := Aside0.mk (below_step (by repeat (first | (with_reducible first | exact HB.out | apply below_alloc | apply pw_below_drewN | apply below_drew1 | refine below_set ?_ GE238.out | refine below_set ?_ GE239.out | refine below_set ?_ GE240.out | refine below_set ?_ GE241.out) | exact HB.out)) hb); have n5_ := Aside0.mk (hbox); have n6_ := Aside0.mk ((by rw [hg]; exact (below_size (by repeat (first | (with_reducible first | exact HB.out | apply below_alloc | apply pw_below_drewN | apply below_drew1 | refine below_set ?_ GE238.out | refine below_set ?_ GE239.out | refine below_set ?_ GE240.out | refine below_set ?_ GE241.out) | exact HB.out))) : w.heap.size ≤ gb251)); have n7_ := Aside0.mk ((by rw [hg]; exact (below_size (by repeat (first | (with_reducible first | exact HB.out | apply below_alloc | apply pw_below_drewN | apply below_drew1 | refine below_set ?_ GE238.out | refine below_set ?_ GE239.out | refine below_set ?_ GE240.out | refine below_set ?_ GE241.out) | exact HB.out))) : w.heap.size ≤ gb251)); have n8_ := Aside0.mk ((by rw [hg]; exact Nat.ne_of_lt (blk_lt (g := gb238) (o := .cells #[.slice A0_0 l0_0.length c0_0, .slice A0_1 l0_1.length c0_1, .slice A0_2 l0_2.length c0_2] 25 (0, 0)) (by (with_reducible repeat (first | refine blk_drewN ?_ _ | refine blk_drew ?_ | refine blk_alloc ?_ _)); exact BK238.out)) : gb238 ≠ gb251)); have n9_ := Aside0.mk ((by rw [hg]; exact Nat.ne_of_gt (blk_lt (g := gb238) (o := .cells #[.slice A0_0 l0_0.length c0_0, .slice A0_1 l0_1.length c0_1, .slice A0_2 l0_2.length c0_2] 25 (0, 0)) (by (with_reducible repeat (first | refine blk_drewN ?_ _ | refine blk_drew ?_ | refine blk_alloc ?_ _)); exact BK238.out)) : gb251 ≠ gb238)); have n10_ := Aside0.mk ((by rw [hg]; exact Nat.ne_of_lt (blk_lt (g := gb239) (o := .cells #[.int .i64 a1_0, .int .i64 a1_1] 27 (0, 0)) (by (with_reducible repeat (first | refine blk_drewN ?_ _ | refine blk_drew ?_ | refine blk_alloc ?_ _)); exact BK239.out)) : gb239 ≠ gb251)); have n11_ := Aside0.mk ((by rw [hg]; exact Nat.ne_of_gt (blk_lt (g := gb239) (o := .cells #[.int .i64 a1_0, .int .i64 a1_1] 27 (0, 0)) (by (with_reducible repeat (first | refine blk_drewN ?_ _ | refine blk_drew ?_ | refine blk_alloc ?_ _)); exact BK239.out)) : gb251 ≠ gb239)); have n12_ := Aside0.mk ((by rw [hg]; exact Nat.ne_of_lt (blk_lt (g := gb240) (o := .cells #[.int .i64 a2_0, .int .i64 a2_1] 27 (0, 0)) (by (with_reducible repeat (first | refine blk_drewN ?_ _ | refine blk_drew ?_ | refine blk_alloc ?_ _)); exact BK240.out)) : gb240 ≠ gb251)); have n13_ := Aside0.mk ((by rw [hg]; exact Nat.ne_of_gt (blk_lt (g := gb240) (o := .cells #[.int .i64 a2_0, .int .i64 a2_1] 27 (0, 0)) (by (with_reducible repeat (first | refine blk_drewN ?_ _ | refine blk_drew ?_ | refine blk_alloc ?_ _)); exact BK240.out)) : gb251 ≠ gb240)); have n14_ := Aside0.mk ((by rw [hg]; exact Nat.ne_of_lt (blk_lt (g := gb241) (o := .cells #[.int .i64 0, .int .i64 0] 27 (0, 0)) (by (with_reducible repeat (first | refine blk_drewN ?_ _ | refine blk_drew ?_ | refine blk_alloc ?_ _)); exact BK241.out)) : gb241 ≠ gb251)); have n15_ := Aside0.mk ((by rw [hg]; exact Nat.ne_of_gt (blk_lt (g := gb241) (o := .cells #[.int .i64 0, .int .i64 0] 27 (0, 0)) (by (with_reducible repeat (first | refine blk_drewN ?_ _ | refine blk_drew ?_ | refine blk_alloc ?_ _)); exact BK241.out)) : gb251 ≠ gb241)); clear BK238; clear BK239; clear BK240; clear BK241; clear HB; have BK238 := n0_; have BK239 := n1_; have BK240 := n2_; have BK241 := n3_; have HB := n4_; have BK251 := n5_; have GW251 := n6_; have GE251 := n7_; have NB238_251 := n8_; have NB251_238 := n9_; have NB239_251 := n10_; have NB251_239 := n11_; have NB240_251 := n12_; have NB251_240 := n13_; have NB241_251 := n14_; have NB251_241 := n15_; clear n0_ n1_ n2_ n3_ n4_ n5_ n6_ n7_ n8_ n9_ n10_ n11_ n12_ n13_ n14_ n15_; clear hb hbox hg) | ((with_reducible refine gate_dst (N := 10) rfl ?_); refine box_event ?hg (N := 10) ?hd (cs := #[.int .i64 0, .int .i64 0, .int .i64 0, .int .i64 0]) (t := 133) ?hr ?_; (case hd => rfl); (case hg => rfl); (case hr => first | (go_simp; done) | (go_simp; rfl)); intro gb252 hg w28 hbox hb; have n0_ := Aside0.mk (blk_below (g := gb238) (o := .cells #[.slice A0_0 l0_0.length c0_0, .slice A0_1 l0_1.length c0_1, .slice A0_2 l0_2.length c0_2] 25 (0, 0)) (by (with_reducible repeat (first | refine blk_drewN ?_ _ | refine blk_drew ?_ | refine blk_alloc ?_ _)); exact BK238.out) hb); have n1_ := Aside0.mk (blk_below (g := gb239) (o := .cells #[.int .i64 a1_0, .int .i64 a1_1] 27 (0, 0)) (by (with_reducible repeat (first | refine blk_drewN ?_ _ | refine blk_drew ?_ | refine blk_alloc ?_ _)); exact BK239.out) hb); have n2_ := Aside0.mk (blk_below (g := gb240) (o := .cells #[.int .i64 a2_0, .int .i64 a2_1] 27 (0, 0)) (by (with_reducible repeat (first | refine blk_drewN ?_ _ | refine blk_drew ?_ | refine blk_alloc ?_ _)); exact BK240.out) hb); have n3_ := Aside0.mk (blk_below (g := gb241) (o := .cells #[.int .i64 0, .int .i64 0] 27 (0, 0)) (by (with_reducible repeat (first | refine blk_drewN ?_ _ | refine blk_drew ?_ | refine blk_alloc ?_ _)); exact BK241.out) hb); have n4_ := Aside0.mk (blk_below (g := gb251) (o := .cells #[.int .i64 0, .int .i64 0, .int .i64 0, .int .i64 0] 133 (0, 0)) (by (with_reducible repeat (first | refine blk_drewN ?_ _ | refine blk_drew ?_ | refine blk_alloc ?_ _)); exact BK251.out) hb); have n5_ := Aside0.mk (below_step (by repeat (first | (with_reducible first | exact HB.out | apply below_alloc | apply pw_below_drewN | apply below_drew1 | refine below_set ?_ GE238.out | refine below_set ?_ GE239.out | refine below_set ?_ GE240.out | refine below_set ?_ GE241.out | refine below_set ?_ GE251.out) | exact HB.out)) hb); have n6_ := Aside0.mk (hbox); have n7_ := Aside0.mk ((by rw [hg]; exact (below_size (by repeat (first | (with_reducible first | exact HB.out | apply below_alloc | apply pw_below_drewN | apply below_drew1 | refine below_set ?_ GE238.out | refine below_set ?_ GE239.out | refine below_set ?_ GE240.out | refine below_set ?_ GE241.out | refine below_set ?_ GE251.out) | exact HB.out))) : w.heap.size ≤ gb252)); have n8_ := Aside0.mk ((by rw [hg]; exact (below_size (by repeat (first | (with_reducible first | exact HB.out | apply below_alloc | apply pw_below_drewN | apply below_drew1 | refine below_set ?_ GE238.out | refine below_set ?_ GE239.out | refine below_set ?_ GE240.out | refine below_set ?_ GE241.out | refine below_set ?_ GE251.out) | exact HB.out))) : w.heap.size ≤ gb252)); have n9_ := Aside0.mk ((by rw [hg]; exact Nat.ne_of_lt (blk_lt (g := gb238) (o := .cells #[.slice A0_0 l0_0.length c0_0, .slice A0_1 l0_1.length c0_1, .slice A0_2 l0_2.length c0_2] 25 (0, 0)) (by (with_reducible repeat (first | refine blk_drewN ?_ _ | refine blk_drew ?_ | refine blk_alloc ?_ _)); exact BK238.out)) : gb238 ≠ gb252)); have n10_ := Aside0.mk ((by rw [hg]; exact Nat.ne_of_gt (blk_lt (g := gb238) (o := .cells #[.slice A0_0 l0_0.length c0_0, .slice A0_1 l0_1.length c0_1, .slice A0_2 l0_2.length c0_2] 25 (0, 0)) (by (with_reducible repeat (first | refine blk_drewN ?_ _ | refine blk_drew ?_ | refine blk_alloc ?_ _)); exact BK238.out)) : gb252 ≠ gb238)); have n11_ := Aside0.mk ((by rw [hg]; exact Nat.ne_of_lt (blk_lt (g := gb239) (o := .cells #[.int .i64 a1_0, .int .i64 a1_1] 27 (0, 0)) (by (with_reducible repeat (first | refine blk_drewN ?_ _ | refine blk_drew ?_ | refine blk_alloc ?_ _)); exact BK239.out)) : gb239 ≠ gb252)); have n12_ := Aside0.mk ((by rw [hg]; exact Nat.ne_of_gt (blk_lt (g := gb239) (o := .cells #[.int .i64 a1_0, .int .i64 a1_1] 27 (0, 0)) (by (with_reducible repeat (first | refine blk_drewN ?_ _ | refine blk_drew ?_ | refine blk_alloc ?_ _)); exact BK239.out)) : gb252 ≠ gb239)); have n13_ := Aside0.mk ((by rw [hg]; exact Nat.ne_of_lt (blk_lt (g := gb240) (o := .cells #[.int .i64 a2_0, .int .i64 a2_1] 27 (0, 0)) (by (with_reducible repeat (first | refine blk_drewN ?_ _ | refine blk_drew ?_ | refine blk_alloc ?_ _)); exact BK240.out)) : gb240 ≠ gb252)); have n14_ := Aside0.mk ((by rw [hg]; exact Nat.ne_of_gt (blk_lt (g := gb240) (o := .cells #[.int .i64 a2_0, .int .i64 a2_1] 27 (0, 0)) (by (with_reducible repeat (first | refine blk_drewN ?_ _ | refine blk_drew ?_ | refine blk_alloc ?_ _)); exact BK240.out)) : gb252 ≠ gb240)); have n15_ := Aside0.mk ((by rw [hg]; exact Nat.ne_of_lt (blk_lt (g := gb241) (o := .cells #[.int .i64 0, .int .i64 0] 27 (0, 0)) (by (with_reducible repeat (first | refine blk_drewN ?_ _ | refine blk_drew ?_ | refine blk_alloc ?_ _)); exact BK241.out)) : gb241 ≠ gb252)); have n16_ := Aside0.mk ((by rw [hg]; exact Nat.ne_of_gt (blk_lt (g := gb241) (o := .cells #[.int .i64 0, .int .i64 0] 27 (0, 0)) (by (with_reducible repeat (first | refine blk_drewN ?_ _ | refine blk_drew ?_ | refine blk_alloc ?_ _)); exact BK241.out)) : gb252 ≠ gb241)); have n17_ := Aside0.mk ((by rw [hg]; exact Nat.ne_of_lt (blk_lt (g := gb251) (o := .cells #[.int .i64 0, .int .i64 0, .int .i64 0, .int .i64 0] 133 (0, 0)) (by (with_reducible repeat (first | refine blk_drewN ?_ _ | refine blk_drew ?_ | refine blk_alloc ?_ _)); exact BK251.out)) : gb251 ≠ gb252)); have n18_ := Aside0.mk ((by rw [hg]; exact Nat.ne_of_gt (blk_lt (g := gb251) (o := .cells #[.int .i64 0, .int .i64 0, .int .i64 0, .int .i64 0] 133 (0, 0)) (by (with_reducible repeat (first | refine blk_drewN ?_ _ | refine blk_drew ?_ | refine blk_alloc ?_ _)); exact BK251.out)) : gb252 ≠ gb251)); clear BK238; clear BK239; clear BK240; clear BK241; clear BK251; clear HB; have BK238 := n0_; have BK239 := n1_; have BK240 := n2_; have BK241 := n3_; have BK251 := n4_; have HB := n5_; have BK252 := n6_; have GW252 := n7_; have GE252 := n8_; have NB238_252 := n9_; have NB252_238 := n10_; have NB239_252 := n11_; have NB252_239 := n12_; have NB240_252 := n13_; have NB252_240 := n14_; have NB241_252 := n15_; have NB252_241 := n16_; have NB251_252 := n17_; have NB252_251 := n18_; clear n0_ n1_ n2_ n3_ n4_ n5_ n6_ n7_ n8_ n9_ n10_ n11_ n12_ n13_ n14_ n15_ n16_ n17_ n18_; clear hb hbox hg; have hnb29 := NB251_238.out; have hnc29 := NB238_251.out; have hnb30 := NB251_239.out; have hnc30 := NB239_251.out; have hnb31 := NB251_240.out; have hnc31 := NB240_251.out; have hnb32 := NB251_241.out; have hnc32 := NB241_251.out; have hnb33 := NB251_252.out; have hnc33 := NB252_251.out; have hcz34_0 : w28.cell? ⟨gb251, 0, none⟩ = some (.int .i64 0) := (blk_cell BK251.out 0).trans rfl; have hcz34_1 : w28.cell? ⟨gb251, 1, none⟩ = some (.int .i64 0) := (blk_cell BK251.out 1).trans rfl; have hcz34_2 : w28.cell? ⟨gb251, 2, none⟩ = some (.int .i64 0) := (blk_cell BK251.out 2).trans rfl; have hcz34_3 : w28.cell? ⟨gb251, 3, none⟩ = some (.int .i64 0) := (blk_cell BK251.out 3).trans rfl; have hfz34_0 := blk_frozen BK251.out 0; have hfz34_1 := blk_frozen BK251.out 1; have hfz34_2 := blk_frozen BK251.out 2; have hfz34_3 := blk_frozen BK251.out 3; have hnb35 := NB252_238.out; have hnc35 := NB238_252.out; have hnb36 := NB252_239.out; have hnc36 := NB239_252.out; have hnb37 := NB252_240.out; have hnc37 := NB240_252.out; have hnb38 := NB252_241.out; have hnc38 := NB241_252.out; have hcz39_0 : w28.cell? ⟨gb252, 0, none⟩ = some (.int .i64 0) := (blk_cell BK252.out 0).trans rfl; have hcz39_1 : w28.cell? ⟨gb252, 1, none⟩ = some (.int .i64 0) := (blk_cell BK252.out 1).trans rfl; have hcz39_2 : w28.cell? ⟨gb252, 2, none⟩ = some (.int .i64 0) := (blk_cell BK252.out 2).trans rfl; have hcz39_3 : w28.cell? ⟨gb252, 3, none⟩ = some (.int .i64 0) := (blk_cell BK252.out 3).trans rfl; have hfz39_0 := blk_frozen BK252.out 0; have hfz39_1 := blk_frozen BK252.out 1; have hfz39_2 := blk_frozen BK252.out 2; have hfz39_3 := blk_frozen BK252.out 3))
    have n0_ : Aside0 (((((((((w28.setCell ⟨gb251, 0, none⟩ (.int .i64 t243)).setCell ⟨gb251, 1, none⟩ (.int .i64 t244)).setCell ⟨gb251, 2, none⟩ (.int .i64 t245)).setCell ⟨gb251, 3, none⟩ (.int .i64 t246)).setCell ⟨gb252, 0, none⟩ (.int .i64 t247)).setCell ⟨gb252, 1, none⟩ (.int .i64 t248)).setCell ⟨gb252, 2, none⟩ (.int .i64 t249)).setCell ⟨gb252, 3, none⟩ (.int .i64 t250)).heap[gb238]? = some (.cells #[.slice A0_0 l0_0.length c0_0, .slice A0_1 l0_1.length c0_1, .slice A0_2 l0_2.length c0_2] 25 (0, 0))) := ⟨by (with_reducible repeat (first | refine blk_drewN ?_ _ | refine blk_drew ?_ | refine blk_alloc ?_ _)); refine blk_far ?_ NB238_252.out _; (with_reducible repeat (first | refine blk_drewN ?_ _ | refine blk_drew ?_ | refine blk_alloc ?_ _)); refine blk_far ?_ NB238_252.out _; (with_reducible repeat (first | refine blk_drewN ?_ _ | refine blk_drew ?_ | refine blk_alloc ?_ _)); refine blk_far ?_ NB238_252.out _; (with_reducible repeat (first | refine blk_drewN ?_ _ | refine blk_drew ?_ | refine blk_alloc ?_ _)); refine blk_far ?_ NB238_252.out _; (with_reducible repeat (first | refine blk_drewN ?_ _ | refine blk_drew ?_ | refine blk_alloc ?_ _)); refine blk_far ?_ NB238_251.out _; (with_reducible repeat (first | refine blk_drewN ?_ _ | refine blk_drew ?_ | refine blk_alloc ?_ _)); refine blk_far ?_ NB238_251.out _; (with_reducible repeat (first | refine blk_drewN ?_ _ | refine blk_drew ?_ | refine blk_alloc ?_ _)); refine blk_far ?_ NB238_251.out _; (with_reducible repeat (first | refine blk_drewN ?_ _ | refine blk_drew ?_ | refine blk_alloc ?_ _)); refine blk_far ?_ NB238_251.out _; (with_reducible repeat (first | refine blk_drewN ?_ _ | refine blk_drew ?_ | refine blk_alloc ?_ _)); exact BK238.out⟩
    have n1_ : Aside0 (((((((((w28.setCell ⟨gb251, 0, none⟩ (.int .i64 t243)).setCell ⟨gb251, 1, none⟩ (.int .i64 t244)).setCell ⟨gb251, 2, none⟩ (.int .i64 t245)).setCell ⟨gb251, 3, none⟩ (.int .i64 t246)).setCell ⟨gb252, 0, none⟩ (.int .i64 t247)).setCell ⟨gb252, 1, none⟩ (.int .i64 t248)).setCell ⟨gb252, 2, none⟩ (.int .i64 t249)).setCell ⟨gb252, 3, none⟩ (.int .i64 t250)).heap[gb239]? = some (.cells #[.int .i64 a1_0, .int .i64 a1_1] 27 (0, 0))) := ⟨by (with_reducible repeat (first | refine blk_drewN ?_ _ | refine blk_drew ?_ | refine blk_alloc ?_ _)); refine blk_far ?_ NB239_252.out _; (with_reducible repeat (first | refine blk_drewN ?_ _ | refine blk_drew ?_ | refine blk_alloc ?_ _)); refine blk_far ?_ NB239_252.out _; (with_reducible repeat (first | refine blk_drewN ?_ _ | refine blk_drew ?_ | refine blk_alloc ?_ _)); refine blk_far ?_ NB239_252.out _; (with_reducible repeat (first | refine blk_drewN ?_ _ | refine blk_drew ?_ | refine blk_alloc ?_ _)); refine blk_far ?_ NB239_252.out _; (with_reducible repeat (first | refine blk_drewN ?_ _ | refine blk_drew ?_ | refine blk_alloc ?_ _)); refine blk_far ?_ NB239_251.out _; (with_reducible repeat (first | refine blk_drewN ?_ _ | refine blk_drew ?_ | refine blk_alloc ?_ _)); refine blk_far ?_ NB239_251.out _; (with_reducible repeat (first | refine blk_drewN ?_ _ | refine blk_drew ?_ | refine blk_alloc ?_ _)); refine blk_far ?_ NB239_251.out _; (with_reducible repeat (first | refine blk_drewN ?_ _ | refine blk_drew ?_ | refine blk_alloc ?_ _)); refine blk_far ?_ NB239_251.out _; (with_reducible repeat (first | refine blk_drewN ?_ _ | refine blk_drew ?_ | refine blk_alloc ?_ _)); exact BK239.out⟩
    have n2_ : Aside0 (((((((((w28.setCell ⟨gb251, 0, none⟩ (.int .i64 t243)).setCell ⟨gb251, 1, none⟩ (.int .i64 t244)).setCell ⟨gb251, 2, none⟩ (.int .i64 t245)).setCell ⟨gb251, 3, none⟩ (.int .i64 t246)).setCell ⟨gb252, 0, none⟩ (.int .i64 t247)).setCell ⟨gb252, 1, none⟩ (.int .i64 t248)).setCell ⟨gb252, 2, none⟩ (.int .i64 t249)).setCell ⟨gb252, 3, none⟩ (.int .i64 t250)).heap[gb240]? = some (.cells #[.int .i64 a2_0, .int .i64 a2_1] 27 (0, 0))) := ⟨by (with_reducible repeat (first | refine blk_drewN ?_ _ | refine blk_drew ?_ | refine blk_alloc ?_ _)); refine blk_far ?_ NB240_252.out _; (with_reducible repeat (first | refine blk_drewN ?_ _ | refine blk_drew ?_ | refine blk_alloc ?_ _)); refine blk_far ?_ NB240_252.out _; (with_reducible repeat (first | refine blk_drewN ?_ _ | refine blk_drew ?_ | refine blk_alloc ?_ _)); refine blk_far ?_ NB240_252.out _; (with_reducible repeat (first | refine blk_drewN ?_ _ | refine blk_drew ?_ | refine blk_alloc ?_ _)); refine blk_far ?_ NB240_252.out _; (with_reducible repeat (first | refine blk_drewN ?_ _ | refine blk_drew ?_ | refine blk_alloc ?_ _)); refine blk_far ?_ NB240_251.out _; (with_reducible repeat (first | refine blk_drewN ?_ _ | refine blk_drew ?_ | refine blk_alloc ?_ _)); refine blk_far ?_ NB240_251.out _; (with_reducible repeat (first | refine blk_drewN ?_ _ | refine blk_drew ?_ | refine blk_alloc ?_ _)); refine blk_far ?_ NB240_251.out _; (with_reducible repeat (first | refine blk_drewN ?_ _ | refine blk_drew ?_ | refine blk_alloc ?_ _)); refine blk_far ?_ NB240_251.out _; (with_reducible repeat (first | refine blk_drewN ?_ _ | refine blk_drew ?_ | refine blk_alloc ?_ _)); exact BK240.out⟩
    have n3_ : Aside0 (((((((((w28.setCell ⟨gb251, 0, none⟩ (.int .i64 t243)).setCell ⟨gb251, 1, none⟩ (.int .i64 t244)).setCell ⟨gb251, 2, none⟩ (.int .i64 t245)).setCell ⟨gb251, 3, none⟩ (.int .i64 t246)).setCell ⟨gb252, 0, none⟩ (.int .i64 t247)).setCell ⟨gb252, 1, none⟩ (.int .i64 t248)).setCell ⟨gb252, 2, none⟩ (.int .i64 t249)).setCell ⟨gb252, 3, none⟩ (.int .i64 t250)).heap[gb241]? = some (.cells #[.int .i64 0, .int .i64 0] 27 (0, 0))) := ⟨by (with_reducible repeat (first | refine blk_drewN ?_ _ | refine blk_drew ?_ | refine blk_alloc ?_ _)); refine blk_far ?_ NB241_252.out _; (with_reducible repeat (first | refine blk_drewN ?_ _ | refine blk_drew ?_ | refine blk_alloc ?_ _)); refine blk_far ?_ NB241_252.out _; (with_reducible repeat (first | refine blk_drewN ?_ _ | refine blk_drew ?_ | refine blk_alloc ?_ _)); refine blk_far ?_ NB241_252.out _; (with_reducible repeat (first | refine blk_drewN ?_ _ | refine blk_drew ?_ | refine blk_alloc ?_ _)); refine blk_far ?_ NB241_252.out _; (with_reducible repeat (first | refine blk_drewN ?_ _ | refine blk_drew ?_ | refine blk_alloc ?_ _)); refine blk_far ?_ NB241_251.out _; (with_reducible repeat (first | refine blk_drewN ?_ _ | refine blk_drew ?_ | refine blk_alloc ?_ _)); refine blk_far ?_ NB241_251.out _; (with_reducible repeat (first | refine blk_drewN ?_ _ | refine blk_drew ?_ | refine blk_alloc ?_ _)); refine blk_far ?_ NB241_251.out _; (with_reducible repeat (first | refine blk_drewN ?_ _ | refine blk_drew ?_ | refine blk_alloc ?_ _)); refine blk_far ?_ NB241_251.out _; (with_reducible repeat (first | refine blk_drewN ?_ _ | refine blk_drew ?_ | refine blk_alloc ?_ _)); exact BK241.out⟩
    have n4_ : Aside0 (((((((((w28.setCell ⟨gb251, 0, none⟩ (.int .i64 t243)).setCell ⟨gb251, 1, none⟩ (.int .i64 t244)).setCell ⟨gb251, 2, none⟩ (.int .i64 t245)).setCell ⟨gb251, 3, none⟩ (.int .i64 t246)).setCell ⟨gb252, 0, none⟩ (.int .i64 t247)).setCell ⟨gb252, 1, none⟩ (.int .i64 t248)).setCell ⟨gb252, 2, none⟩ (.int .i64 t249)).setCell ⟨gb252, 3, none⟩ (.int .i64 t250)).heap[gb251]? = some (.cells #[.int .i64 t243, .int .i64 t244, .int .i64 t245, .int .i64 t246] 133 (0, 0))) := ⟨by (with_reducible repeat (first | refine blk_drewN ?_ _ | refine blk_drew ?_ | refine blk_alloc ?_ _)); refine blk_far ?_ NB251_252.out _; (with_reducible repeat (first | refine blk_drewN ?_ _ | refine blk_drew ?_ | refine blk_alloc ?_ _)); refine blk_far ?_ NB251_252.out _; (with_reducible repeat (first | refine blk_drewN ?_ _ | refine blk_drew ?_ | refine blk_alloc ?_ _)); refine blk_far ?_ NB251_252.out _; (with_reducible repeat (first | refine blk_drewN ?_ _ | refine blk_drew ?_ | refine blk_alloc ?_ _)); refine blk_far ?_ NB251_252.out _; (with_reducible repeat (first | refine blk_drewN ?_ _ | refine blk_drew ?_ | refine blk_alloc ?_ _)); refine blk_put (cs := #[.int .i64 t243, .int .i64 t244, .int .i64 t245, .int .i64 0]) ?_ 3 _ rfl; (with_reducible repeat (first | refine blk_drewN ?_ _ | refine blk_drew ?_ | refine blk_alloc ?_ _)); refine blk_put (cs := #[.int .i64 t243, .int .i64 t244, .int .i64 0, .int .i64 0]) ?_ 2 _ rfl; (with_reducible repeat (first | refine blk_drewN ?_ _ | refine blk_drew ?_ | refine blk_alloc ?_ _)); refine blk_put (cs := #[.int .i64 t243, .int .i64 0, .int .i64 0, .int .i64 0]) ?_ 1 _ rfl; (with_reducible repeat (first | refine blk_drewN ?_ _ | refine blk_drew ?_ | refine blk_alloc ?_ _)); refine blk_put (cs := #[.int .i64 0, .int .i64 0, .int .i64 0, .int .i64 0]) ?_ 0 _ rfl; (with_reducible repeat (first | refine blk_drewN ?_ _ | refine blk_drew ?_ | refine blk_alloc ?_ _)); exact BK251.out⟩
    have n5_ : Aside0 (((((((((w28.setCell ⟨gb251, 0, none⟩ (.int .i64 t243)).setCell ⟨gb251, 1, none⟩ (.int .i64 t244)).setCell ⟨gb251, 2, none⟩ (.int .i64 t245)).setCell ⟨gb251, 3, none⟩ (.int .i64 t246)).setCell ⟨gb252, 0, none⟩ (.int .i64 t247)).setCell ⟨gb252, 1, none⟩ (.int .i64 t248)).setCell ⟨gb252, 2, none⟩ (.int .i64 t249)).setCell ⟨gb252, 3, none⟩ (.int .i64 t250)).heap[gb252]? = some (.cells #[.int .i64 t247, .int .i64 t248, .int .i64 t249, .int .i64 t250] 133 (0, 0))) := ⟨by (with_reducible repeat (first | refine blk_drewN ?_ _ | refine blk_drew ?_ | refine blk_alloc ?_ _)); refine blk_put (cs := #[.int .i64 t247, .int .i64 t248, .int .i64 t249, .int .i64 0]) ?_ 3 _ rfl; (with_reducible repeat (first | refine blk_drewN ?_ _ | refine blk_drew ?_ | refine blk_alloc ?_ _)); refine blk_put (cs := #[.int .i64 t247, .int .i64 t248, .int .i64 0, .int .i64 0]) ?_ 2 _ rfl; (with_reducible repeat (first | refine blk_drewN ?_ _ | refine blk_drew ?_ | refine blk_alloc ?_ _)); refine blk_put (cs := #[.int .i64 t247, .int .i64 0, .int .i64 0, .int .i64 0]) ?_ 1 _ rfl; (with_reducible repeat (first | refine blk_drewN ?_ _ | refine blk_drew ?_ | refine blk_alloc ?_ _)); refine blk_put (cs := #[.int .i64 0, .int .i64 0, .int .i64 0, .int .i64 0]) ?_ 0 _ rfl; (with_reducible repeat (first | refine blk_drewN ?_ _ | refine blk_drew ?_ | refine blk_alloc ?_ _)); refine blk_far ?_ NB252_251.out _; (with_reducible repeat (first | refine blk_drewN ?_ _ | refine blk_drew ?_ | refine blk_alloc ?_ _)); refine blk_far ?_ NB252_251.out _; (with_reducible repeat (first | refine blk_drewN ?_ _ | refine blk_drew ?_ | refine blk_alloc ?_ _)); refine blk_far ?_ NB252_251.out _; (with_reducible repeat (first | refine blk_drewN ?_ _ | refine blk_drew ?_ | refine blk_alloc ?_ _)); refine blk_far ?_ NB252_251.out _; (with_reducible repeat (first | refine blk_drewN ?_ _ | refine blk_drew ?_ | refine blk_alloc ?_ _)); exact BK252.out⟩
    have n6_ : Aside0 (Below w.heap.size w ((((((((w28.setCell ⟨gb251, 0, none⟩ (.int .i64 t243)).setCell ⟨gb251, 1, none⟩ (.int .i64 t244)).setCell ⟨gb251, 2, none⟩ (.int .i64 t245)).setCell ⟨gb251, 3, none⟩ (.int .i64 t246)).setCell ⟨gb252, 0, none⟩ (.int .i64 t247)).setCell ⟨gb252, 1, none⟩ (.int .i64 t248)).setCell ⟨gb252, 2, none⟩ (.int .i64 t249)).setCell ⟨gb252, 3, none⟩ (.int .i64 t250))) := ⟨by repeat (first | (with_reducible first | exact HB.out | apply below_alloc | apply pw_below_drewN | apply below_drew1 | refine below_set ?_ GE238.out | refine below_set ?_ GE239.out | refine below_set ?_ GE240.out | refine below_set ?_ GE241.out | refine below_set ?_ GE251.out | refine below_set ?_ GE252.out) | exact HB.out)⟩
    (try clear BK238)
    (try clear BK239)
    (try clear BK240)
    (try clear BK241)
    (try clear BK251)
    (try clear BK252)
    (try clear HB)
    generalize ((((((((w28.setCell ⟨gb251, 0, none⟩ (.int .i64 t243)).setCell ⟨gb251, 1, none⟩ (.int .i64 t244)).setCell ⟨gb251, 2, none⟩ (.int .i64 t245)).setCell ⟨gb251, 3, none⟩ (.int .i64 t246)).setCell ⟨gb252, 0, none⟩ (.int .i64 t247)).setCell ⟨gb252, 1, none⟩ (.int .i64 t248)).setCell ⟨gb252, 2, none⟩ (.int .i64 t249)).setCell ⟨gb252, 3, none⟩ (.int .i64 t250)) = w40 at n0_ n1_ n2_ n3_ n4_ n5_ n6_ ⊢
    have BK238 := n0_
    have BK239 := n1_
    have BK240 := n2_
    have BK241 := n3_
    have BK251 := n4_
    have BK252 := n5_
    have HB := n6_
    clear n0_ n1_ n2_ n3_ n4_ n5_ n6_
    have n0_ := Aside0.mk (blk_drew BK238.out)
    have n1_ := Aside0.mk (blk_drew BK239.out)
    have n2_ := Aside0.mk (blk_drew BK240.out)
    have n3_ := Aside0.mk (blk_drew BK241.out)
    have n4_ := Aside0.mk (blk_drew BK251.out)
    have n5_ := Aside0.mk (blk_drew BK252.out)
    have n6_ := Aside0.mk (below_drew1 HB.out)
    clear BK238
    clear BK239
    clear BK240
    clear BK241
    clear BK251
    clear BK252
    clear HB
    have BK238 := n0_
    have BK239 := n1_
    have BK240 := n2_
    have BK241 := n3_
    have BK251 := n4_
    have BK252 := n5_
    have HB := n6_
    clear n0_ n1_ n2_ n3_ n4_ n5_ n6_
    refine start_ (n := 13) (S := fun w' => w'.cell? ⟨gb251, 0, none⟩ = some (.int .i64 t243) ∧ w'.cell? ⟨gb251, 1, none⟩ = some (.int .i64 t244) ∧ w'.cell? ⟨gb251, 2, none⟩ = some (.int .i64 t245) ∧ w'.cell? ⟨gb251, 3, none⟩ = some (.int .i64 t246) ∧ w'.cell? ⟨gb252, 0, none⟩ = some (.int .i64 t247) ∧ w'.cell? ⟨gb252, 1, none⟩ = some (.int .i64 t248) ∧ w'.cell? ⟨gb252, 2, none⟩ = some (.int .i64 t249) ∧ w'.cell? ⟨gb252, 3, none⟩ = some (.int .i64 t250)) (ds := []) #[false, false, false, false, false, false, false, false, false, false, false, false, false] (by kernel_rfl) rfl rfl ⟨(blk_cell BK251.out 0).trans rfl, (blk_cell BK251.out 1).trans rfl, (blk_cell BK251.out 2).trans rfl, (blk_cell BK251.out 3).trans rfl, (blk_cell BK252.out 0).trans rfl, (blk_cell BK252.out 1).trans rfl, (blk_cell BK252.out 2).trans rfl, (blk_cell BK252.out 3).trans rfl⟩ (fun hHeld => ?_); refine with_tabW spans_Bound.tab5 spans_Bound.bits5 (fun HT_ HW_ => ?_)
    generalize w40.drew = w41 at BK238 BK239 BK240 BK241 BK251 BK252 HB hHeld ⊢
    refine pure_ (i := 0) (N := some 26) (v := ?_) (a' := ?_) #[true, false, false, false, false, false, false, false, false, false, false, false, false] rfl rfl (any_of HT_.out (by kernel_rfl)) (fun _ _ _ h => h) (Or.inl ⟨by rfl, ?_⟩) ?_ ?_
    rotate_left
    · intro w'
      go_simp
      with_reducible rfl
    rotate_left
    · simp only [Act.put, List.setIfInBounds_toArray, List.set_cons_zero, List.set_cons_succ, i64_w, i32_w]
      rfl
    refine pure_ (i := 1) (N := some 27) (v := ?_) (a' := ?_) #[true, true, false, false, false, false, false, false, false, false, false, false, false] rfl rfl (any_of HT_.out (by kernel_rfl)) (fun _ _ _ h => h) (Or.inl ⟨by rfl, ?_⟩) ?_ ?_
    rotate_left
    · intro w'
      go_simp
      with_reducible rfl
    rotate_left
    · simp only [Act.put, List.setIfInBounds_toArray, List.set_cons_zero, List.set_cons_succ, i64_w, i32_w]
      rfl
    refine pure_ (i := 3) (N := some 29) (v := ?_) (a' := ?_) #[true, true, false, true, false, false, false, false, false, false, false, false, false] rfl rfl (any_of HT_.out (by kernel_rfl)) (fun _ _ _ h => h) (Or.inl ⟨by rfl, ?_⟩) ?_ ?_
    rotate_left
    · intro w'
      go_simp
      with_reducible rfl
    rotate_left
    · simp only [Act.put, List.setIfInBounds_toArray, List.set_cons_zero, List.set_cons_succ, i64_w, i32_w]
      rfl
    refine pure_ (i := 4) (N := some 30) (v := ?_) (a' := ?_) #[true, true, false, true, true, false, false, false, false, false, false, false, false] rfl rfl (any_of HT_.out (by kernel_rfl)) (fun _ _ _ h => h) (Or.inl ⟨by rfl, ?_⟩) ?_ ?_
    rotate_left
    · intro w'
      go_simp
      with_reducible rfl
    rotate_left
    · simp only [Act.put, List.setIfInBounds_toArray, List.set_cons_zero, List.set_cons_succ, i64_w, i32_w]
      rfl
    refine pure_ (i := 7) (N := some 33) (v := ?_) (a' := ?_) #[true, true, false, true, true, false, false, true, false, false, false, false, false] rfl rfl (any_of HT_.out (by kernel_rfl)) (fun _ _ _ h => h) (Or.inl ⟨by rfl, ?_⟩) ?_ ?_
    rotate_left
    · intro w'
      go_simp
      with_reducible rfl
    rotate_left
    · simp only [Act.put, List.setIfInBounds_toArray, List.set_cons_zero, List.set_cons_succ, i64_w, i32_w]
      rfl
    refine take_ (i := 2) (N := some 28) (v := ?_) (a' := ?_) #[true, true, true, true, true, false, false, true, false, false, false, false, false] rfl rfl (take_ofW HT_.out HW_.out (by kernel_rfl)) (fun _ _ _ h => h) (Or.inl ⟨by rfl, ?_⟩) hHeld ?_ ?_
    rotate_left
    · rintro w' ⟨s0, s1, s2, s3, s4, s5, s6, s7⟩
      go_simp
      with_reducible rfl
    rotate_left
    · simp only [Act.put, List.setIfInBounds_toArray, List.set_cons_zero, List.set_cons_succ, i64_w, i32_w]
      rfl
    refine take_ (i := 5) (N := some 31) (v := ?_) (a' := ?_) #[true, true, true, true, true, true, false, true, false, false, false, false, false] rfl rfl (take_ofW HT_.out HW_.out (by kernel_rfl)) (fun _ _ _ h => h) (Or.inl ⟨by rfl, ?_⟩) hHeld ?_ ?_
    rotate_left
    · rintro w' ⟨s0, s1, s2, s3, s4, s5, s6, s7⟩
      go_simp
      with_reducible rfl
    rotate_left
    · simp only [Act.put, List.setIfInBounds_toArray, List.set_cons_zero, List.set_cons_succ, i64_w, i32_w]
      rfl
    refine take_ (i := 8) (N := some 34) (v := ?_) (a' := ?_) #[true, true, true, true, true, true, false, true, true, false, false, false, false] rfl rfl (take_ofW HT_.out HW_.out (by kernel_rfl)) (fun _ _ _ h => h) (Or.inl ⟨by rfl, ?_⟩) hHeld ?_ ?_
    rotate_left
    · rintro w' ⟨s0, s1, s2, s3, s4, s5, s6, s7⟩
      go_simp
      with_reducible rfl
    rotate_left
    · simp only [Act.put, List.setIfInBounds_toArray, List.set_cons_zero, List.set_cons_succ, i64_w, i32_w]
      rfl
    refine one_ (i := 6) (N := some 32) #[true, true, true, true, true, true, true, true, true, false, false, false, false] rfl rfl (one_of HT_.out (by kernel_rfl)) (by decide) (fun K hK => ?_)
    refine goes_ Try.func100 (by kernel_rfl) rfl #[.int .i64 t245, .int .i64 t246] (by rfl) rfl rfl (by (try simp only [List.map_toArray, List.map_cons, List.map_nil]); first | done | rfl | (simp only [List.length_drop, List.length_take]; rfl)) ?_
    with_reducible refine (spans_floor.calls t245 t246 t253 _ A7.out).mono ?_
    rintro e w' ⟨rfl, ⟨nd, rfl⟩⟩
    refine ⟨_, rfl, ?_⟩
    refine hK.out _ _ ⟨(blk_cell BK251.out 0).trans rfl, (blk_cell BK251.out 1).trans rfl, (blk_cell BK251.out 2).trans rfl, (blk_cell BK251.out 3).trans rfl, (blk_cell BK252.out 0).trans rfl, (blk_cell BK252.out 1).trans rfl, (blk_cell BK252.out 2).trans rfl, (blk_cell BK252.out 3).trans rfl⟩ (fun hHeld => ?_)
    clear hK K
    refine norm_ (a' := ?_) ?_ ?_
    rotate_left
    · show Act.put _ (some 32) _ = _
      simp only [Act.put, List.setIfInBounds_toArray, List.set_cons_zero, List.set_cons_succ, i64_w, i32_w]
      rfl
    refine one_ (i := 9) (N := some 35) #[true, true, true, true, true, true, true, true, true, true, false, false, false] rfl rfl (one_of HT_.out (by kernel_rfl)) (by decide) (fun K hK => ?_)
    refine goes_ Try.func90 (by kernel_rfl) rfl #[.agg #[.int .i64 t249, .int .i64 t250]] (by rfl) rfl rfl (by (try simp only [List.map_toArray, List.map_cons, List.map_nil]); first | done | rfl | (simp only [List.length_drop, List.length_take]; rfl)) ?_
    with_reducible refine (spans_value_up.calls t249 t250 t254 _ A8.out).mono ?_
    rintro e w42 ⟨rfl, hb⟩
    refine ⟨_, rfl, ?_⟩
    have n0_ := Aside0.mk (blk_below (g := gb238) (o := .cells #[.slice A0_0 l0_0.length c0_0, .slice A0_1 l0_1.length c0_1, .slice A0_2 l0_2.length c0_2] 25 (0, 0)) (by (with_reducible repeat (first | refine blk_drewN ?_ _ | refine blk_drew ?_ | refine blk_alloc ?_ _)); exact BK238.out) hb)
    have n1_ := Aside0.mk (blk_below (g := gb239) (o := .cells #[.int .i64 a1_0, .int .i64 a1_1] 27 (0, 0)) (by (with_reducible repeat (first | refine blk_drewN ?_ _ | refine blk_drew ?_ | refine blk_alloc ?_ _)); exact BK239.out) hb)
    have n2_ := Aside0.mk (blk_below (g := gb240) (o := .cells #[.int .i64 a2_0, .int .i64 a2_1] 27 (0, 0)) (by (with_reducible repeat (first | refine blk_drewN ?_ _ | refine blk_drew ?_ | refine blk_alloc ?_ _)); exact BK240.out) hb)
    have n3_ := Aside0.mk (blk_below (g := gb241) (o := .cells #[.int .i64 0, .int .i64 0] 27 (0, 0)) (by (with_reducible repeat (first | refine blk_drewN ?_ _ | refine blk_drew ?_ | refine blk_alloc ?_ _)); exact BK241.out) hb)
    have n4_ := Aside0.mk (blk_below (g := gb251) (o := .cells #[.int .i64 t243, .int .i64 t244, .int .i64 t245, .int .i64 t246] 133 (0, 0)) (by (with_reducible repeat (first | refine blk_drewN ?_ _ | refine blk_drew ?_ | refine blk_alloc ?_ _)); exact BK251.out) hb)
    have n5_ := Aside0.mk (blk_below (g := gb252) (o := .cells #[.int .i64 t247, .int .i64 t248, .int .i64 t249, .int .i64 t250] 133 (0, 0)) (by (with_reducible repeat (first | refine blk_drewN ?_ _ | refine blk_drew ?_ | refine blk_alloc ?_ _)); exact BK252.out) hb)
    have n6_ := Aside0.mk (below_step (by repeat (first | (with_reducible first | exact HB.out | apply below_alloc | apply pw_below_drewN | apply below_drew1 | refine below_set ?_ GE238.out | refine below_set ?_ GE239.out | refine below_set ?_ GE240.out | refine below_set ?_ GE241.out | refine below_set ?_ GE251.out | refine below_set ?_ GE252.out) | exact HB.out)) hb)
    clear BK238
    clear BK239
    clear BK240
    clear BK241
    clear BK251
    clear BK252
    clear HB
    have BK238 := n0_
    have BK239 := n1_
    have BK240 := n2_
    have BK241 := n3_
    have BK251 := n4_
    have BK252 := n5_
    have HB := n6_
    clear n0_ n1_ n2_ n3_ n4_ n5_ n6_
    (try clear hb)
    (try clear hb2)
    (try clear hk)
    (try clear hi)
    refine hK.out _ _ ⟨(blk_cell BK251.out 0).trans rfl, (blk_cell BK251.out 1).trans rfl, (blk_cell BK251.out 2).trans rfl, (blk_cell BK251.out 3).trans rfl, (blk_cell BK252.out 0).trans rfl, (blk_cell BK252.out 1).trans rfl, (blk_cell BK252.out 2).trans rfl, (blk_cell BK252.out 3).trans rfl⟩ (fun hHeld => ?_)
    clear hK K
    refine norm_ (a' := ?_) ?_ ?_
    rotate_left
    · show Act.put _ (some 35) _ = _
      simp only [Act.put, List.setIfInBounds_toArray, List.set_cons_zero, List.set_cons_succ, i64_w, i32_w]
      rfl
    refine pure_ (i := 10) (N := some 36) (v := ?_) (a' := ?_) #[true, true, true, true, true, true, true, true, true, true, true, false, false] rfl rfl (any_of HT_.out (by kernel_rfl)) (fun _ _ _ h => h) (Or.inl ⟨by rfl, ?_⟩) ?_ ?_
    rotate_left
    · intro w'
      go_simp
      with_reducible rfl
    rotate_left
    · simp only [Act.put, List.setIfInBounds_toArray, List.set_cons_zero, List.set_cons_succ, i64_w, i32_w]
      rfl
    refine one_ (i := 11) (N := none) #[true, true, true, true, true, true, true, true, true, true, true, true, false] rfl rfl (one_of HT_.out (by kernel_rfl)) (by decide) (fun K hK => ?_)
    have hs43 : w42.cell? ⟨gb241, 0, none⟩ = some (.int .i64 0) := (blk_cell BK241.out 0).trans rfl
    have hfs43 := blk_frozen BK241.out 0
    have hns43_0 := NB238_241.out
    have hns43_1 := NB239_241.out
    have hns43_2 := NB240_241.out
    have hns43_4 := NB251_241.out
    have hns43_5 := NB252_241.out
    have hms43_0 := NB241_238.out
    have hms43_1 := NB241_239.out
    have hms43_2 := NB241_240.out
    have hms43_4 := NB241_251.out
    have hms43_5 := NB241_252.out
    have hs44 : w42.cell? ⟨gb241, 1, none⟩ = some (.int .i64 0) := (blk_cell BK241.out 1).trans rfl
    have hfs44 := blk_frozen BK241.out 1
    have hns44_0 := NB238_241.out
    have hns44_1 := NB239_241.out
    have hns44_2 := NB240_241.out
    have hns44_4 := NB251_241.out
    have hns44_5 := NB252_241.out
    have hms44_0 := NB241_238.out
    have hms44_1 := NB241_239.out
    have hms44_2 := NB241_240.out
    have hms44_4 := NB241_251.out
    have hms44_5 := NB241_252.out
    refine skip_ (w1 := ?_) (by rfl) rfl ?_ ?_
    rotate_left
    · go_simp
      rfl
    refine hK.out _ _ ⟨((cell_far (p := ⟨gb241, _, none⟩) NB251_241.out _).trans (((cell_far (p := ⟨gb241, _, none⟩) NB251_241.out _).trans (hHeld.1)))), ((cell_far (p := ⟨gb241, _, none⟩) NB251_241.out _).trans (((cell_far (p := ⟨gb241, _, none⟩) NB251_241.out _).trans (hHeld.2.1)))), ((cell_far (p := ⟨gb241, _, none⟩) NB251_241.out _).trans (((cell_far (p := ⟨gb241, _, none⟩) NB251_241.out _).trans (hHeld.2.2.1)))), ((cell_far (p := ⟨gb241, _, none⟩) NB251_241.out _).trans (((cell_far (p := ⟨gb241, _, none⟩) NB251_241.out _).trans (hHeld.2.2.2.1)))), ((cell_far (p := ⟨gb241, _, none⟩) NB252_241.out _).trans (((cell_far (p := ⟨gb241, _, none⟩) NB252_241.out _).trans (hHeld.2.2.2.2.1)))), ((cell_far (p := ⟨gb241, _, none⟩) NB252_241.out _).trans (((cell_far (p := ⟨gb241, _, none⟩) NB252_241.out _).trans (hHeld.2.2.2.2.2.1)))), ((cell_far (p := ⟨gb241, _, none⟩) NB252_241.out _).trans (((cell_far (p := ⟨gb241, _, none⟩) NB252_241.out _).trans (hHeld.2.2.2.2.2.2.1)))), ((cell_far (p := ⟨gb241, _, none⟩) NB252_241.out _).trans (((cell_far (p := ⟨gb241, _, none⟩) NB252_241.out _).trans (hHeld.2.2.2.2.2.2.2))))⟩ (fun hHeld => ?_)
    clear hK K
    refine pure_ (i := 12) (N := some 7) (v := ?_) (a' := ?_) #[true, true, true, true, true, true, true, true, true, true, true, true, true] rfl rfl (any_of HT_.out (by kernel_rfl)) (fun _ _ _ h => h) (Or.inl ⟨by rfl, ?_⟩) ?_ ?_
    rotate_left
    · intro w'
      go_simp
      with_reducible rfl
    rotate_left
    · simp only [Act.put, List.setIfInBounds_toArray, List.set_cons_zero, List.set_cons_succ, i64_w, i32_w]
      rfl
    refine done_ (done_of HT_.out (by kernel_rfl)) ?_
    try go_wp2
    refine bodyPost_ret (results_ct rfl _ _ gb241 27 #[.int .i64 t253, .int .i64 t254] (0, 0) _ rfl (by (with_reducible repeat (first | refine blk_drewN ?_ _ | refine blk_drew ?_ | refine blk_alloc ?_ _)); refine blk_put (cs := #[.int .i64 t253, .int .i64 0]) ?_ 1 _ rfl; (with_reducible repeat (first | refine blk_drewN ?_ _ | refine blk_drew ?_ | refine blk_alloc ?_ _)); refine blk_put (cs := #[.int .i64 0, .int .i64 0]) ?_ 0 _ rfl; (with_reducible repeat (first | refine blk_drewN ?_ _ | refine blk_drew ?_ | refine blk_alloc ?_ _)); exact BK241.out) Try.underlying27 rfl (by kernel_rfl)) rfl ?_
    exact ⟨by first | rfl | (simp [errW_none, errW_some] <;> rfl) | (simp [*, errW_none, errW_some] <;> rfl), by repeat (first | (with_reducible first | exact HB.out | apply below_alloc | apply pw_below_drewN | apply below_drew1 | refine below_set ?_ GE238.out | refine below_set ?_ GE239.out | refine below_set ?_ GE240.out | refine below_set ?_ GE241.out | refine below_set ?_ GE251.out | refine below_set ?_ GE252.out) | exact HB.out)⟩
  · rw [if_neg c5] at H
    have c5b0 : (t242 == 0) = false := beq_eq_false_iff_ne.mpr c5
    have c5b1 : (t242 != 0) = true := bne_iff_ne.mpr c5
    simp only [Option.some.injEq, Prod.mk.injEq] at H
    obtain ⟨rfl, rfl, rfl⟩ := H
    go_enter Try.func30, Try.ntmps30
    go_wp2_with (first | ((with_reducible refine gate_dst (N := 3) rfl ?_); refine box_event ?hg (N := 3) ?hd (cs := #[.slice A0_0 l0_0.length c0_0, .slice A0_1 l0_1.length c0_1, .slice A0_2 l0_2.length c0_2]) (t := 25) ?hr ?_; (case hd => rfl); (case hg => rfl); (case hr => first | (go_simp; done) | (go_simp; rfl)); intro gb238 hg w45 hbox hb; have n0_ := Aside0.mk (below_step (by repeat (first | (with_reducible first | exact HB.out | apply below_alloc | apply pw_below_drewN | apply below_drew1) | exact HB.out)) hb); have n1_ := Aside0.mk (hbox); have n2_ := Aside0.mk ((by rw [hg]; exact (below_size (by repeat (first | (with_reducible first | exact HB.out | apply below_alloc | apply pw_below_drewN | apply below_drew1) | exact HB.out))) : w.heap.size ≤ gb238)); have n3_ := Aside0.mk ((by rw [hg]; exact (below_size (by repeat (first | (with_reducible first | exact HB.out | apply below_alloc | apply pw_below_drewN | apply below_drew1) | exact HB.out))) : w.heap.size ≤ gb238)); clear HB; have HB := n0_; have BK238 := n1_; have GW238 := n2_; have GE238 := n3_; clear n0_ n1_ n2_ n3_; clear hb hbox hg) | ((with_reducible refine gate_dst (N := 4) rfl ?_); refine box_event ?hg (N := 4) ?hd (cs := #[.int .i64 a1_0, .int .i64 a1_1]) (t := 27) ?hr ?_; (case hd => rfl); (case hg => rfl); (case hr => first | (go_simp; done) | (go_simp; rfl)); intro gb239 hg w46 hbox hb; have n0_ := Aside0.mk (blk_below (g := gb238) (o := .cells #[.slice A0_0 l0_0.length c0_0, .slice A0_1 l0_1.length c0_1, .slice A0_2 l0_2.length c0_2] 25 (0, 0)) (by (with_reducible repeat (first | refine blk_drewN ?_ _ | refine blk_drew ?_ | refine blk_alloc ?_ _)); exact BK238.out) hb); have n1_ := Aside0.mk (below_step (by repeat (first | (with_reducible first | exact HB.out | apply below_alloc | apply pw_below_drewN | apply below_drew1 | refine below_set ?_ GE238.out) | exact HB.out)) hb); have n2_ := Aside0.mk (hbox); have n3_ := Aside0.mk ((by rw [hg]; exact (below_size (by repeat (first | (with_reducible first | exact HB.out | apply below_alloc | apply pw_below_drewN | apply below_drew1 | refine below_set ?_ GE238.out) | exact HB.out))) : w.heap.size ≤ gb239)); have n4_ := Aside0.mk ((by rw [hg]; exact (below_size (by repeat (first | (with_reducible first | exact HB.out | apply below_alloc | apply pw_below_drewN | apply below_drew1 | refine below_set ?_ GE238.out) | exact HB.out))) : w.heap.size ≤ gb239)); have n5_ := Aside0.mk ((by rw [hg]; exact Nat.ne_of_lt (blk_lt (g := gb238) (o := .cells #[.slice A0_0 l0_0.length c0_0, .slice A0_1 l0_1.length c0_1, .slice A0_2 l0_2.length c0_2] 25 (0, 0)) (by (with_reducible repeat (first | refine blk_drewN ?_ _ | refine blk_drew ?_ | refine blk_alloc ?_ _)); exact BK238.out)) : gb238 ≠ gb239)); have n6_ := Aside0.mk ((by rw [hg]; exact Nat.ne_of_gt (blk_lt (g := gb238) (o := .cells #[.slice A0_0 l0_0.length c0_0, .slice A0_1 l0_1.length c0_1, .slice A0_2 l0_2.length c0_2] 25 (0, 0)) (by (with_reducible repeat (first | refine blk_drewN ?_ _ | refine blk_drew ?_ | refine blk_alloc ?_ _)); exact BK238.out)) : gb239 ≠ gb238)); clear BK238; clear HB; have BK238 := n0_; have HB := n1_; have BK239 := n2_; have GW239 := n3_; have GE239 := n4_; have NB238_239 := n5_; have NB239_238 := n6_; clear n0_ n1_ n2_ n3_ n4_ n5_ n6_; clear hb hbox hg) | ((with_reducible refine gate_dst (N := 5) rfl ?_); refine box_event ?hg (N := 5) ?hd (cs := #[.int .i64 a2_0, .int .i64 a2_1]) (t := 27) ?hr ?_; (case hd => rfl); (case hg => rfl); (case hr => first | (go_simp; done) | (go_simp; rfl)); intro gb240 hg w47 hbox hb; have n0_ := Aside0.mk (blk_below (g := gb238) (o := .cells #[.slice A0_0 l0_0.length c0_0, .slice A0_1 l0_1.length c0_1, .slice A0_2 l0_2.length c0_2] 25 (0, 0)) (by (with_reducible repeat (first | refine blk_drewN ?_ _ | refine blk_drew ?_ | refine blk_alloc ?_ _)); exact BK238.out) hb); have n1_ := Aside0.mk (blk_below (g := gb239) (o := .cells #[.int .i64 a1_0, .int .i64 a1_1] 27 (0, 0)) (by (with_reducible repeat (first | refine blk_drewN ?_ _ | refine blk_drew ?_ | refine blk_alloc ?_ _)); exact BK239.out) hb); have n2_ := Aside0.mk (below_step (by repeat (first | (with_reducible first | exact HB.out | apply below_alloc | apply pw_below_drewN | apply below_drew1 | refine below_set ?_ GE238.out | refine below_set ?_ GE239.out) | exact HB.out)) hb); have n3_ := Aside0.mk (hbox); have n4_ := Aside0.mk ((by rw [hg]; exact (below_size (by repeat (first | (with_reducible first | exact HB.out | apply below_alloc | apply pw_below_drewN | apply below_drew1 | refine below_set ?_ GE238.out | refine below_set ?_ GE239.out) | exact HB.out))) : w.heap.size ≤ gb240)); have n5_ := Aside0.mk ((by rw [hg]; exact (below_size (by repeat (first | (with_reducible first | exact HB.out | apply below_alloc | apply pw_below_drewN | apply below_drew1 | refine below_set ?_ GE238.out | refine below_set ?_ GE239.out) | exact HB.out))) : w.heap.size ≤ gb240)); have n6_ := Aside0.mk ((by rw [hg]; exact Nat.ne_of_lt (blk_lt (g := gb238) (o := .cells #[.slice A0_0 l0_0.length c0_0, .slice A0_1 l0_1.length c0_1, .slice A0_2 l0_2.length c0_2] 25 (0, 0)) (by (with_reducible repeat (first | refine blk_drewN ?_ _ | refine blk_drew ?_ | refine blk_alloc ?_ _)); exact BK238.out)) : gb238 ≠ gb240)); have n7_ := Aside0.mk ((by rw [hg]; exact Nat.ne_of_gt (blk_lt (g := gb238) (o := .cells #[.slice A0_0 l0_0.length c0_0, .slice A0_1 l0_1.length c0_1, .slice A0_2 l0_2.length c0_2] 25 (0, 0)) (by (with_reducible repeat (first | refine blk_drewN ?_ _ | refine blk_drew ?_ | refine blk_alloc ?_ _)); exact BK238.out)) : gb240 ≠ gb238)); have n8_ := Aside0.mk ((by rw [hg]; exact Nat.ne_of_lt (blk_lt (g := gb239) (o := .cells #[.int .i64 a1_0, .int .i64 a1_1] 27 (0, 0)) (by (with_reducible repeat (first | refine blk_drewN ?_ _ | refine blk_drew ?_ | refine blk_alloc ?_ _)); exact BK239.out)) : gb239 ≠ gb240)); have n9_ := Aside0.mk ((by rw [hg]; exact Nat.ne_of_gt (blk_lt (g := gb239) (o := .cells #[.int .i64 a1_0, .int .i64 a1_1] 27 (0, 0)) (by (with_reducible repeat (first | refine blk_drewN ?_ _ | refine blk_drew ?_ | refine blk_alloc ?_ _)); exact BK239.out)) : gb240 ≠ gb239)); clear BK238; clear BK239; clear HB; have BK238 := n0_; have BK239 := n1_; have HB := n2_; have BK240 := n3_; have GW240 := n4_; have GE240 := n5_; have NB238_240 := n6_; have NB240_238 := n7_; have NB239_240 := n8_; have NB240_239 := n9_; clear n0_ n1_ n2_ n3_ n4_ n5_ n6_ n7_ n8_ n9_; clear hb hbox hg) | ((with_reducible refine gate_dst (N := 6) rfl ?_); refine box_event ?hg (N := 6) ?hd (cs := #[.int .i64 0, .int .i64 0]) (t := 27) ?hr ?_; (case hd => rfl); (case hg => rfl); (case hr => first | (go_simp; done) | (go_simp; rfl)); intro gb241 hg w48 hbox hb; have n0_ := Aside0.mk (blk_below (g := gb238) (o := .cells #[.slice A0_0 l0_0.length c0_0, .slice A0_1 l0_1.length c0_1, .slice A0_2 l0_2.length c0_2] 25 (0, 0)) (by (with_reducible repeat (first | refine blk_drewN ?_ _ | refine blk_drew ?_ | refine blk_alloc ?_ _)); exact BK238.out) hb); have n1_ := Aside0.mk (blk_below (g := gb239) (o := .cells #[.int .i64 a1_0, .int .i64 a1_1] 27 (0, 0)) (by (with_reducible repeat (first | refine blk_drewN ?_ _ | refine blk_drew ?_ | refine blk_alloc ?_ _)); exact BK239.out) hb); have n2_ := Aside0.mk (blk_below (g := gb240) (o := .cells #[.int .i64 a2_0, .int .i64 a2_1] 27 (0, 0)) (by (with_reducible repeat (first | refine blk_drewN ?_ _ | refine blk_drew ?_ | refine blk_alloc ?_ _)); exact BK240.out) hb); have n3_ := Aside0.mk (below_step (by repeat (first | (with_reducible first | exact HB.out | apply below_alloc | apply pw_below_drewN | apply below_drew1 | refine below_set ?_ GE238.out | refine below_set ?_ GE239.out | refine below_set ?_ GE240.out) | exact HB.out)) hb); have n4_ := Aside0.mk (hbox); have n5_ := Aside0.mk ((by rw [hg]; exact (below_size (by repeat (first | (with_reducible first | exact HB.out | apply below_alloc | apply pw_below_drewN | apply below_drew1 | refine below_set ?_ GE238.out | refine below_set ?_ GE239.out | refine below_set ?_ GE240.out) | exact HB.out))) : w.heap.size ≤ gb241)); have n6_ := Aside0.mk ((by rw [hg]; exact (below_size (by repeat (first | (with_reducible first | exact HB.out | apply below_alloc | apply pw_below_drewN | apply below_drew1 | refine below_set ?_ GE238.out | refine below_set ?_ GE239.out | refine below_set ?_ GE240.out) | exact HB.out))) : w.heap.size ≤ gb241)); have n7_ := Aside0.mk ((by rw [hg]; exact Nat.ne_of_lt (blk_lt (g := gb238) (o := .cells #[.slice A0_0 l0_0.length c0_0, .slice A0_1 l0_1.length c0_1, .slice A0_2 l0_2.length c0_2] 25 (0, 0)) (by (with_reducible repeat (first | refine blk_drewN ?_ _ | refine blk_drew ?_ | refine blk_alloc ?_ _)); exact BK238.out)) : gb238 ≠ gb241)); have n8_ := Aside0.mk ((by rw [hg]; exact Nat.ne_of_gt (blk_lt (g := gb238) (o := .cells #[.slice A0_0 l0_0.length c0_0, .slice A0_1 l0_1.length c0_1, .slice A0_2 l0_2.length c0_2] 25 (0, 0)) (by (with_reducible repeat (first | refine blk_drewN ?_ _ | refine blk_drew ?_ | refine blk_alloc ?_ _)); exact BK238.out)) : gb241 ≠ gb238)); have n9_ := Aside0.mk ((by rw [hg]; exact Nat.ne_of_lt (blk_lt (g := gb239) (o := .cells #[.int .i64 a1_0, .int .i64 a1_1] 27 (0, 0)) (by (with_reducible repeat (first | refine blk_drewN ?_ _ | refine blk_drew ?_ | refine blk_alloc ?_ _)); exact BK239.out)) : gb239 ≠ gb241)); have n10_ := Aside0.mk ((by rw [hg]; exact Nat.ne_of_gt (blk_lt (g := gb239) (o := .cells #[.int .i64 a1_0, .int .i64 a1_1] 27 (0, 0)) (by (with_reducible repeat (first | refine blk_drewN ?_ _ | refine blk_drew ?_ | refine blk_alloc ?_ _)); exact BK239.out)) : gb241 ≠ gb239)); have n11_ := Aside0.mk ((by rw [hg]; exact Nat.ne_of_lt (blk_lt (g := gb240) (o := .cells #[.int .i64 a2_0, .int .i64 a2_1] 27 (0, 0)) (by (with_reducible repeat (first | refine blk_drewN ?_ _ | refine blk_drew ?_ | refine blk_alloc ?_ _)); exact BK240.out)) : gb240 ≠ gb241)); have n12_ := Aside0.mk ((by rw [hg]; exact Nat.ne_of_gt (blk_lt (g := gb240) (o := .cells #[.int .i64 a2_0, .int .i64 a2_1] 27 (0, 0)) (by (with_reducible repeat (first | refine blk_drewN ?_ _ | refine blk_drew ?_ | refine blk_alloc ?_ _)); exact BK240.out)) : gb241 ≠ gb240)); clear BK238; clear BK239; clear BK240; clear HB; have BK238 := n0_; have BK239 := n1_; have BK240 := n2_; have HB := n3_; have BK241 := n4_; have GW241 := n5_; have GE241 := n6_; have NB238_241 := n7_; have NB241_238 := n8_; have NB239_241 := n9_; have NB241_239 := n10_; have NB240_241 := n11_; have NB241_240 := n12_; clear n0_ n1_ n2_ n3_ n4_ n5_ n6_ n7_ n8_ n9_ n10_ n11_ n12_; clear hb hbox hg; have hnb49 := NB238_239.out; have hnc49 := NB239_238.out; have hnb50 := NB238_240.out; have hnc50 := NB240_238.out; have hnb51 := NB238_241.out; have hnc51 := NB241_238.out; have hcz52_0 : w48.cell? ⟨gb238, 0, none⟩ = some (.slice A0_0 l0_0.length c0_0) := (blk_cell BK238.out 0).trans rfl; have hcz52_1 : w48.cell? ⟨gb238, 1, none⟩ = some (.slice A0_1 l0_1.length c0_1) := (blk_cell BK238.out 1).trans rfl; have hcz52_2 : w48.cell? ⟨gb238, 2, none⟩ = some (.slice A0_2 l0_2.length c0_2) := (blk_cell BK238.out 2).trans rfl; have hfz52_0 := blk_frozen BK238.out 0; have hfz52_1 := blk_frozen BK238.out 1; have hfz52_2 := blk_frozen BK238.out 2; have hnb53 := NB239_240.out; have hnc53 := NB240_239.out; have hnb54 := NB239_241.out; have hnc54 := NB241_239.out; have hcz55_0 : w48.cell? ⟨gb239, 0, none⟩ = some (.int .i64 a1_0) := (blk_cell BK239.out 0).trans rfl; have hcz55_1 : w48.cell? ⟨gb239, 1, none⟩ = some (.int .i64 a1_1) := (blk_cell BK239.out 1).trans rfl; have hfz55_0 := blk_frozen BK239.out 0; have hfz55_1 := blk_frozen BK239.out 1; have hnb56 := NB240_241.out; have hnc56 := NB241_240.out; have hcz57_0 : w48.cell? ⟨gb240, 0, none⟩ = some (.int .i64 a2_0) := (blk_cell BK240.out 0).trans rfl; have hcz57_1 : w48.cell? ⟨gb240, 1, none⟩ = some (.int .i64 a2_1) := (blk_cell BK240.out 1).trans rfl; have hfz57_0 := blk_frozen BK240.out 0; have hfz57_1 := blk_frozen BK240.out 1) | ((with_reducible refine gate_callee (f := 88) rfl ?_); refine goesL_ (some 14) rfl rfl Try.func88 (by kernel_rfl) rfl #[.agg #[.slice A0_0 l0_0.length c0_0, .slice A0_1 l0_1.length c0_1, .slice A0_2 l0_2.length c0_2], .agg #[.int .i64 a1_0, .int .i64 a1_1], .agg #[.int .i64 a2_0, .int .i64 a2_1]] rfl (by (try simp only [List.map_toArray, List.map_cons, List.map_nil]); first | done | rfl | (simp only [List.length_drop, List.length_take]; rfl)) ?_; (with_reducible refine (spans_checkPoints.calls _ _ l0_0 _ _ l0_1 _ _ l0_2 a1_0 a1_1 a2_0 a2_1 t242 _ ?side1 ?side2 ?side3 ?side4 ?side5 ?side6 A4.out).mono ?_); (case side1 => repeat (first | exact (Kd.C_below HR0_0.out HB.out) | (with_reducible refine Kd.C_alloc ?_ _) | (with_reducible refine Kd.C_drewN ?_ _) | (with_reducible refine Kd.C_drew ?_))); (case side2 => exact HC0_0.out); (case side3 => repeat (first | exact (Kd.C_below HR0_1.out HB.out) | (with_reducible refine Kd.C_alloc ?_ _) | (with_reducible refine Kd.C_drewN ?_ _) | (with_reducible refine Kd.C_drew ?_))); (case side4 => exact HC0_1.out); (case side5 => repeat (first | exact (Kd.C_below HR0_2.out HB.out) | (with_reducible refine Kd.C_alloc ?_ _) | (with_reducible refine Kd.C_drewN ?_ _) | (with_reducible refine Kd.C_drew ?_))); (case side6 => exact HC0_2.out); rintro e w58 ⟨rfl, hb⟩; refine ⟨_, rfl, ?_⟩; have n0_ := Aside0.mk (blk_below (g := gb238) (o := .cells #[.slice A0_0 l0_0.length c0_0, .slice A0_1 l0_1.length c0_1, .slice A0_2 l0_2.length c0_2] 25 (0, 0)) (by (with_reducible repeat (first | refine blk_drewN ?_ _ | refine blk_drew ?_ | refine blk_alloc ?_ _)); exact BK238.out) hb); have n1_ := Aside0.mk (blk_below (g := gb239) (o := .cells #[.int .i64 a1_0, .int .i64 a1_1] 27 (0, 0)) (by (with_reducible repeat (first | refine blk_drewN ?_ _ | refine blk_drew ?_ | refine blk_alloc ?_ _)); exact BK239.out) hb); have n2_ := Aside0.mk (blk_below (g := gb240) (o := .cells #[.int .i64 a2_0, .int .i64 a2_1] 27 (0, 0)) (by (with_reducible repeat (first | refine blk_drewN ?_ _ | refine blk_drew ?_ | refine blk_alloc ?_ _)); exact BK240.out) hb); have n3_ := Aside0.mk (blk_below (g := gb241) (o := .cells #[.int .i64 0, .int .i64 0] 27 (0, 0)) (by (with_reducible repeat (first | refine blk_drewN ?_ _ | refine blk_drew ?_ | refine blk_alloc ?_ _)); exact BK241.out) hb); have n4_ := Aside0.mk (below_step (by repeat (first | (with_reducible first | exact HB.out | apply below_alloc | apply pw_below_drewN | apply below_drew1 | refine below_set ?_ GE238.out | refine below_set ?_ GE239.out | refine below_set ?_ GE240.out | refine below_set ?_ GE241.out) | exact HB.out)) hb); clear BK238; clear BK239; clear BK240; clear BK241; clear HB; have BK238 := n0_; have BK239 := n1_; have BK240 := n2_; have BK241 := n3_; have HB := n4_; clear n0_ n1_ n2_ n3_ n4_; (try clear hb); (try clear hb2); (try clear hk); (try clear hi); have hcz59_0 : w58.cell? ⟨gb241, 0, none⟩ = some (.int .i64 0) := (blk_cell BK241.out 0).trans rfl; have hcz59_1 : w58.cell? ⟨gb241, 1, none⟩ = some (.int .i64 0) := (blk_cell BK241.out 1).trans rfl; have hfz59_0 := blk_frozen BK241.out 0; have hfz59_1 := blk_frozen BK241.out 1))
    refine bodyPost_ret (results_ct rfl _ _ gb241 27 #[.int .i64 0, .int .i64 0] (0, 0) _ rfl (by (with_reducible repeat (first | refine blk_drewN ?_ _ | refine blk_drew ?_ | refine blk_alloc ?_ _)); refine blk_put (cs := #[.int .i64 0, .int .i64 0]) ?_ 1 _ rfl; (with_reducible repeat (first | refine blk_drewN ?_ _ | refine blk_drew ?_ | refine blk_alloc ?_ _)); refine blk_put (cs := #[.int .i64 0, .int .i64 0]) ?_ 0 _ rfl; (with_reducible repeat (first | refine blk_drewN ?_ _ | refine blk_drew ?_ | refine blk_alloc ?_ _)); exact BK241.out) Try.underlying27 rfl (by kernel_rfl)) rfl ?_
    exact ⟨by first | rfl | (simp [errW_none, errW_some] <;> rfl) | (simp [*, errW_none, errW_some] <;> rfl), by repeat (first | (with_reducible first | exact HB.out | apply below_alloc | apply pw_below_drewN | apply below_drew1 | refine below_set ?_ GE238.out | refine below_set ?_ GE239.out | refine below_set ?_ GE240.out | refine below_set ?_ GE241.out) | exact HB.out)⟩
end Go.Proofs.Yteodlmgmmpkpoaa.PS
end
section
namespace Go.Proofs.Yteodlmgmmpkpoaa.PS
open Go.RowKit Go.Proofs.YteodlmgmmpkpoaaW.PrintWords Go.Proofs.YteodlmgmmpkpoaaW.PrintLast Go.Proofs.YteodlmgmmpkpoaaW.PrintMore
attribute [local go_sem] max2_int min2_int max_two min_two max_three min_three max_four min_four   -- for this text's walks alone
set_option linter.unusedVariables false
set_option linter.unusedSimpArgs false
def spans_Greatest.l0 : Nat → Int → Int → Int → List Int → List Int → List (List Int) → Int → Int → Option (Int × Int)
  | 0, _, _, _, _, _, _, _, _ => none
  | k + 1, x2, x9, x12, x222000, x222001, x222002, x223000, x223001 => if x12 ≥ x9 then ((spans_extremes.f x222000 x222001 x222002 x12 x12 x223000 x223001).bind fun bt227 => ((spans_value_up.f bt227.2.2.2.2.2.2.1 bt227.2.2.2.2.2.2.2).bind fun t237 => (if t237 ≤ x2 then (some (x12, 0)) else (spans_Greatest.l0 k x2 x9 (wrap64 (x12 - 1)) x222000 x222001 x222002 x223000 x223001)))) else (some (0, 3))
def spans_Greatest.f (k : Nat) (l0_0 : List Int) (l0_1 : List Int) (l0_2 : List (List Int)) (a1_0 : Int) (a1_1 : Int) (a2 : Int) : Option (Int × Int) := (spans_CheckTable.f l0_0 l0_1 l0_2).bind fun t223 => (if t223 = 0 then (if 0 < (l0_0.length : Int) then (if 0 ≤ (wrap64 ((l0_0.length : Int) - 1)) then (if (wrap64 ((l0_0.length : Int) - 1)) < (l0_0.length : Int) then ((spans_checkPoints.f l0_0 l0_1 l0_2 (rd l0_0 0) (rd l0_0 0) a1_0 a1_1).bind fun t226 => (if t226 = 0 then (spans_Greatest.l0 k a2 (rd l0_0 0) (rd l0_0 (wrap64 ((l0_0.length : Int) - 1))) l0_0 l0_1 l0_2 a1_0 a1_1) else (some (0, t226)))) else (none)) else (none)) else (none)) else (some (0, t223)))
theorem spans_Greatest.mono_l : ∀ k, (∀ y0 y1 y2 y3 y4 y5 y6 y7, LeO (spans_Greatest.l0 k y0 y1 y2 y3 y4 y5 y6 y7) (spans_Greatest.l0 (k + 1) y0 y1 y2 y3 y4 y5 y6 y7))
  | 0 => fun _ _ _ _ _ _ _ _ r h => by simp [spans_Greatest.l0] at h
  | k + 1 => by
    have ih0 := spans_Greatest.mono_l k
    · intro y0 y1 y2 y3 y4 y5 y6 y7
      unfold spans_Greatest.l0
      repeat' first
      | (with_reducible exact ih0 _ _ _ _ _ _ _ _)
      | (with_reducible exact LeO.refl _)
      | (with_reducible exact LeO.none _)
      | (with_reducible refine LeO.ite ?_ ?_)
      | (with_reducible refine LeO.bind ?_ (fun _ => ?_))
      | exact ih0 _ _ _ _ _ _ _ _
      | exact LeO.none _
      | refine LeO.ite ?_ ?_
      | refine LeO.bind ?_ (fun _ => ?_)
theorem spans_Greatest.mono : ∀ a0 a1 a2 a3 a4 a5 k, LeO (spans_Greatest.f k a0 a1 a2 a3 a4 a5) (spans_Greatest.f (k + 1) a0 a1 a2 a3 a4 a5) := by
  intro a0 a1 a2 a3 a4 a5 k
  have ih0 := spans_Greatest.mono_l k
  unfold spans_Greatest.f
  repeat' first
      | (with_reducible exact ih0 _ _ _ _ _ _ _ _)
      | (with_reducible exact LeO.refl _)
      | (with_reducible exact LeO.none _)
      | (with_reducible refine LeO.ite ?_ ?_)
      | (with_reducible refine LeO.bind ?_ (fun _ => ?_))
      | exact ih0 _ _ _ _ _ _ _ _
      | exact LeO.none _
      | refine LeO.ite ?_ ?_
      | refine LeO.bind ?_ (fun _ => ?_)
set_option maxHeartbeats 8000000 in
set_option maxRecDepth 100000 in
theorem spans_Greatest.calls (k : Nat) (A0_0 : Option Addr) (c0_0 : Nat) (l0_0 : List Int) (A0_1 : Option Addr) (c0_1 : Nat) (l0_1 : List Int) (A0_2 : Option Addr) (c0_2 : Nat) (l0_2 : List (List Int)) (a1_0 : Int) (a1_1 : Int) (a2 : Int) (r1 : Int) (r2 : Int) (w : World) (hr0_0 : Kd.C (Kd.int .i64) w A0_0 l0_0.length l0_0) (hc0_0 : l0_0.length ≤ c0_0) (hr0_1 : Kd.C (Kd.int .i64) w A0_1 l0_1.length l0_1) (hc0_1 : l0_1.length ≤ c0_1) (hr0_2 : Kd.C (Kd.slice 3 (Kd.int .i64)) w A0_2 l0_2.length l0_2) (hc0_2 : l0_2.length ≤ c0_2) (h : spans_Greatest.f k l0_0 l0_1 l0_2 a1_0 a1_1 a2 = some (r1, r2)) :
    Calls Try.prog 23 #[.agg #[.slice A0_0 l0_0.length c0_0, .slice A0_1 l0_1.length c0_1, .slice A0_2 l0_2.length c0_2], .agg #[.int .i64 a1_0, .int .i64 a1_1], .int .i64 a2] w fun e w' => e = .returned (.tuple #[.int .i64 r1, .int .i64 r2]) ∧ Below w.heap.size w w' := by
  have hu25 := Try.underlying25
  have hu27 := Try.underlying27
  have hu133 := Try.underlying133
  have hu131 := Try.underlying131
  have HR0_0 := Aside0.mk hr0_0
  have HC0_0 := Aside0.mk hc0_0
  clear hr0_0 hc0_0
  have HR0_1 := Aside0.mk hr0_1
  have HC0_1 := Aside0.mk hc0_1
  clear hr0_1 hc0_1
  have HR0_2 := Aside0.mk hr0_2
  have HC0_2 := Aside0.mk hc0_2
  clear hr0_2 hc0_2
  have HB := Aside0.mk (Below.refl w.heap.size w)
  have H : ((spans_CheckTable.f l0_0 l0_1 l0_2).bind fun t223 => (if t223 = 0 then (if 0 < (l0_0.length : Int) then (if 0 ≤ (wrap64 ((l0_0.length : Int) - 1)) then (if (wrap64 ((l0_0.length : Int) - 1)) < (l0_0.length : Int) then ((spans_checkPoints.f l0_0 l0_1 l0_2 (rd l0_0 0) (rd l0_0 0) a1_0 a1_1).bind fun t226 => (if t226 = 0 then (spans_Greatest.l0 k a2 (rd l0_0 0) (rd l0_0 (wrap64 ((l0_0.length : Int) - 1))) l0_0 l0_1 l0_2 a1_0 a1_1) else (some (0, t226)))) else (none)) else (none)) else (none)) else (some (0, t223)))) = some (r1, r2) := h
  clear h
  replace H := Option.bind_eq_some_iff.mp H
  obtain ⟨t223, A40, H⟩ := H
  replace H : (if t223 = 0 then (if 0 < (l0_0.length : Int) then (if 0 ≤ (wrap64 ((l0_0.length : Int) - 1)) then (if (wrap64 ((l0_0.length : Int) - 1)) < (l0_0.length : Int) then ((spans_checkPoints.f l0_0 l0_1 l0_2 (rd l0_0 0) (rd l0_0 0) a1_0 a1_1).bind fun t226 => (if t226 = 0 then (spans_Greatest.l0 k a2 (rd l0_0 0) (rd l0_0 (wrap64 ((l0_0.length : Int) - 1))) l0_0 l0_1 l0_2 a1_0 a1_1) else (some (0, t226)))) else (none)) else (none)) else (none)) else (some (0, t223))) = some (r1, r2) := H
  have A4 := Aside0.mk A40
  clear A40
  by_cases c5 : t223 = 0
  · rw [if_pos c5] at H
    have c5b0 : (t223 == 0) = true := beq_iff_eq.mpr c5
    have c5b1 : (t223 != 0) = false := bne_eq_false_iff_eq.mpr c5
    clear c5
    by_cases c6 : 0 < (l0_0.length : Int)
    · rw [if_pos c6] at H
      have c6b0 : decide (0 < (l0_0.length : Int)) = true := decide_eq_true c6
      have c6b1 : decide (0 < l0_0.length) = true := decide_eq_true (by omega)
      clear c6
      obtain ⟨ji7, hji7⟩ : ∃ j_ : Int, (wrap64 ((l0_0.length : Int) - 1)) = j_ := ⟨_, rfl⟩
      replace H : (if 0 ≤ (ji7) then (if (ji7) < (l0_0.length : Int) then ((spans_checkPoints.f l0_0 l0_1 l0_2 (rd l0_0 0) (rd l0_0 0) a1_0 a1_1).bind fun t226 => (if t226 = 0 then (spans_Greatest.l0 k a2 (rd l0_0 0) (rd l0_0 (ji7)) l0_0 l0_1 l0_2 a1_0 a1_1) else (some (0, t226)))) else (none)) else (none)) = some (r1, r2) := by first | (rw [hji7] at H; exact H) | (simp only [hji7] at H ⊢; exact H)
      (try rw [hji7] at A4)
      have hji7w : (IntKind.i64.wrap ((l0_0.length : Int) - 1)) = ji7 := (i64_w _).trans hji7
      by_cases c8 : 0 ≤ (ji7)
      · rw [if_pos c8] at H
        have c8b0 : decide (0 ≤ (ji7)) = true := decide_eq_true c8
        clear c8
        by_cases c9 : (ji7) < (l0_0.length : Int)
        · rw [if_pos c9] at H
          have c9b0 : decide ((ji7) < (l0_0.length : Int)) = true := decide_eq_true c9
          clear c9
          replace H := Option.bind_eq_some_iff.mp H
          obtain ⟨t226, A100, H⟩ := H
          replace H : (if t226 = 0 then (spans_Greatest.l0 k a2 (rd l0_0 0) (rd l0_0 (ji7)) l0_0 l0_1 l0_2 a1_0 a1_1) else (some (0, t226))) = some (r1, r2) := H
          have A10 := Aside0.mk A100
          clear A100
          by_cases c11 : t226 = 0
          · rw [if_pos c11] at H
            have c11b0 : (t226 == 0) = true := beq_iff_eq.mpr c11
            have c11b1 : (t226 != 0) = false := bne_eq_false_iff_eq.mpr c11
            clear c11
            have H' := Aside0.mk H
            clear H
            go_enter Try.func23, Try.ntmps23
            go_wp2_with (first | ((with_reducible refine gate_dst (N := 3) rfl ?_); refine box_event ?hg (N := 3) ?hd (cs := #[.slice A0_0 l0_0.length c0_0, .slice A0_1 l0_1.length c0_1, .slice A0_2 l0_2.length c0_2]) (t := 25) ?hr ?_; (case hd => rfl); (case hg => rfl); (case hr => first | (go_simp; done) | (go_simp; rfl)); intro gb221 hg w12 hbox hb; have n0_ := Aside0.mk (below_step (by repeat (first | (with_reducible first | exact HB.out | apply below_alloc | apply pw_below_drewN | apply below_drew1) | exact HB.out)) hb); have n1_ := Aside0.mk (hbox); have n2_ := Aside0.mk ((by rw [hg]; exact (below_size (by repeat (first | (with_reducible first | exact HB.out | apply below_alloc | apply pw_below_drewN | apply below_drew1) | exact HB.out))) : w.heap.size ≤ gb221)); have n3_ := Aside0.mk ((by rw [hg]; exact (below_size (by repeat (first | (with_reducible first | exact HB.out | apply below_alloc | apply pw_below_drewN | apply below_drew1) | exact HB.out))) : w.heap.size ≤ gb221)); clear HB; have HB := n0_; have BK221 := n1_; have GW221 := n2_; have GE221 := n3_; clear n0_ n1_ n2_ n3_; clear hb hbox hg) | ((with_reducible refine gate_dst (N := 4) rfl ?_); refine box_event ?hg (N := 4) ?hd (cs := #[.int .i64 a1_0, .int .i64 a1_1]) (t := 27) ?hr ?_; (case hd => rfl); (case hg => rfl); (case hr => first | (go_simp; done) | (go_simp; rfl)); intro gb222 hg w13 hbox hb; have n0_ := Aside0.mk (blk_below (g := gb221) (o := .cells #[.slice A0_0 l0_0.length c0_0, .slice A0_1 l0_1.length c0_1, .slice A0_2 l0_2.length c0_2] 25 (0, 0)) (by (with_reducible repeat (first | refine blk_drewN ?_ _ | refine blk_drew ?_ | refine blk_alloc ?_ _)); exact BK221.out) hb); have n1_ := Aside0.mk (below_step (by repeat (first | (with_reducible first | exact HB.out | apply below_alloc | apply pw_below_drewN | apply below_drew1 | refine below_set ?_ GE221.out) | exact HB.out)) hb); have n2_ := Aside0.mk (hbox); have n3_ := Aside0.mk ((by rw [hg]; exact (below_size (by repeat (first | (with_reducible first | exact HB.out | apply below_alloc | apply pw_below_drewN | apply below_drew1 | refine below_set ?_ GE221.out) | exact HB.out))) : w.heap.size ≤ gb222)); have n4_ := Aside0.mk ((by rw [hg]; exact (below_size (by repeat (first | (with_reducible first | exact HB.out | apply below_alloc | apply pw_below_drewN | apply below_drew1 | refine below_set ?_ GE221.out) | exact HB.out))) : w.heap.size ≤ gb222)); have n5_ := Aside0.mk ((by rw [hg]; exact Nat.ne_of_lt (blk_lt (g := gb221) (o := .cells #[.slice A0_0 l0_0.length c0_0, .slice A0_1 l0_1.length c0_1, .slice A0_2 l0_2.length c0_2] 25 (0, 0)) (by (with_reducible repeat (first | refine blk_drewN ?_ _ | refine blk_drew ?_ | refine blk_alloc ?_ _)); exact BK221.out)) : gb221 ≠ gb222)); have n6_ := Aside0.mk ((by rw [hg]; exact Nat.ne_of_gt (blk_lt (g := gb221) (o := .cells #[.slice A0_0 l0_0.length c0_0, .slice A0_1 l0_1.length c0_1, .slice A0_2 l0_2.length c0_2] 25 (0, 0)) (by (with_reducible repeat (first | refine blk_drewN ?_ _ | refine blk_drew ?_ | refine blk_alloc ?_ _)); exact BK221.out)) : gb222 ≠ gb221)); clear BK221; clear HB; have BK221 := n0_; have HB := n1_; have BK222 := n2_; have GW222 := n3_; have GE222 := n4_; have NB221_222 := n5_; have NB222_221 := n6_; clear n0_ n1_ n2_ n3_ n4_ n5_ n6_; clear hb hbox hg; have hnb14 := NB221_222.out; have hnc14 := NB222_221.out; have hcz15_0 : w13.cell? ⟨gb221, 0, none⟩ = some (.slice A0_0 l0_0.length c0_0) := (blk_cell BK221.out 0).trans rfl; have hcz15_1 : w13.cell? ⟨gb221, 1, none⟩ = some (.slice A0_1 l0_1.length c0_1) := (blk_cell BK221.out 1).trans rfl; have hcz15_2 : w13.cell? ⟨gb221, 2, none⟩ = some (.slice A0_2 l0_2.length c0_2) := (blk_cell BK221.out 2).trans rfl; have hfz15_0 := blk_frozen BK221.out 0; have hfz15_1 := blk_frozen BK221.out 1; have hfz15_2 := blk_frozen BK221.out 2) | (go_at_call 29; (with_reducible refine (spans_CheckTable.calls _ _ l0_0 _ _ l0_1 _ _ l0_2 t223 _ ?side1 ?side2 ?side3 ?side4 ?side5 ?side6 A4.out).mono ?_); (case side1 => repeat (first | exact (Kd.C_below HR0_0.out HB.out) | (with_reducible refine Kd.C_alloc ?_ _) | (with_reducible refine Kd.C_drewN ?_ _) | (with_reducible refine Kd.C_drew ?_))); (case side2 => exact HC0_0.out); (case side3 => repeat (first | exact (Kd.C_below HR0_1.out HB.out) | (with_reducible refine Kd.C_alloc ?_ _) | (with_reducible refine Kd.C_drewN ?_ _) | (with_reducible refine Kd.C_drew ?_))); (case side4 => exact HC0_1.out); (case side5 => repeat (first | exact (Kd.C_below HR0_2.out HB.out) | (with_reducible refine Kd.C_alloc ?_ _) | (with_reducible refine Kd.C_drewN ?_ _) | (with_reducible refine Kd.C_drew ?_))); (case side6 => exact HC0_2.out); rintro e w16 ⟨rfl, hb⟩; have n0_ := Aside0.mk (blk_below (g := gb221) (o := .cells #[.slice A0_0 l0_0.length c0_0, .slice A0_1 l0_1.length c0_1, .slice A0_2 l0_2.length c0_2] 25 (0, 0)) (by (with_reducible repeat (first | refine blk_drewN ?_ _ | refine blk_drew ?_ | refine blk_alloc ?_ _)); exact BK221.out) hb); have n1_ := Aside0.mk (blk_below (g := gb222) (o := .cells #[.int .i64 a1_0, .int .i64 a1_1] 27 (0, 0)) (by (with_reducible repeat (first | refine blk_drewN ?_ _ | refine blk_drew ?_ | refine blk_alloc ?_ _)); exact BK222.out) hb); have n2_ := Aside0.mk (below_step (by repeat (first | (with_reducible first | exact HB.out | apply below_alloc | apply pw_below_drewN | apply below_drew1 | refine below_set ?_ GE221.out | refine below_set ?_ GE222.out) | exact HB.out)) hb); clear BK221; clear BK222; clear HB; have BK221 := n0_; have BK222 := n1_; have HB := n2_; clear n0_ n1_ n2_; (try clear hb); (try clear hb2); (try clear hk); (try clear hi); have hcz17_0 : w16.cell? ⟨gb221, 0, none⟩ = some (.slice A0_0 l0_0.length c0_0) := (blk_cell BK221.out 0).trans rfl; have hcz17_1 : w16.cell? ⟨gb221, 1, none⟩ = some (.slice A0_1 l0_1.length c0_1) := (blk_cell BK221.out 1).trans rfl; have hcz17_2 : w16.cell? ⟨gb221, 2, none⟩ = some (.slice A0_2 l0_2.length c0_2) := (blk_cell BK221.out 2).trans rfl; have hfz17_0 := blk_frozen BK221.out 0; have hfz17_1 := blk_frozen BK221.out 1; have hfz17_2 := blk_frozen BK221.out 2; have p224 : 0 ≤ (0 : Int) := (by omega); have q224 : 0 < (l0_0.length : Int) := of_decide_eq_true (by first | (with_reducible assumption) | assumption); obtain ⟨ad224, e224, hx224_0⟩ := Kd.at_int HR0_0.out 0 p224 q224; cases e224; have qi224 : (0 < l0_0.length) = True := eq_true (by omega); (try rw [show ((0 : Int)).toNat = 0 from rfl] at hx224_0); (try rw [Addr.add_zero'] at hx224_0); replace hx224_0 := (HB.out.cell (World.block_lt_of_cell? w _ hx224_0)).trans hx224_0; replace p224 := eq_true p224; replace q224 := eq_true q224; have p225 : 0 ≤ ((ji7) : Int) := of_decide_eq_true (by first | (with_reducible assumption) | assumption); have q225 : (ji7) < (l0_0.length : Int) := of_decide_eq_true (by first | (with_reducible assumption) | assumption); obtain ⟨ad225, e225, hx225_0⟩ := Kd.at_int HR0_0.out (ji7) p225 q225; obtain rfl : ad224 = ad225 := (by injection e225); replace hx225_0 := (HB.out.cell (World.block_lt_of_cell? w _ hx225_0)).trans hx225_0; replace p225 := eq_true p225; replace q225 := eq_true q225; have hcz18_0 : w16.cell? ⟨gb222, 0, none⟩ = some (.int .i64 a1_0) := (blk_cell BK222.out 0).trans rfl; have hcz18_1 : w16.cell? ⟨gb222, 1, none⟩ = some (.int .i64 a1_1) := (blk_cell BK222.out 1).trans rfl; have hfz18_0 := blk_frozen BK222.out 0; have hfz18_1 := blk_frozen BK222.out 1) | (go_at_call 88; (with_reducible refine (spans_checkPoints.calls _ _ l0_0 _ _ l0_1 _ _ l0_2 (rd l0_0 0) (rd l0_0 0) a1_0 a1_1 t226 _ ?side1 ?side2 ?side3 ?side4 ?side5 ?side6 A10.out).mono ?_); (case side1 => repeat (first | exact (Kd.C_below HR0_0.out HB.out) | (with_reducible refine Kd.C_alloc ?_ _) | (with_reducible refine Kd.C_drewN ?_ _) | (with_reducible refine Kd.C_drew ?_))); (case side2 => exact HC0_0.out); (case side3 => repeat (first | exact (Kd.C_below HR0_1.out HB.out) | (with_reducible refine Kd.C_alloc ?_ _) | (with_reducible refine Kd.C_drewN ?_ _) | (with_reducible refine Kd.C_drew ?_))); (case side4 => exact HC0_1.out); (case side5 => repeat (first | exact (Kd.C_below HR0_2.out HB.out) | (with_reducible refine Kd.C_alloc ?_ _) | (with_reducible refine Kd.C_drewN ?_ _) | (with_reducible refine Kd.C_drew ?_))); (case side6 => exact HC0_2.out); rintro e w19 ⟨rfl, hb⟩; have n0_ := Aside0.mk (blk_below (g := gb221) (o := .cells #[.slice (some ad224) l0_0.length c0_0, .slice A0_1 l0_1.length c0_1, .slice A0_2 l0_2.length c0_2] 25 (0, 0)) (by (with_reducible repeat (first | refine blk_drewN ?_ _ | refine blk_drew ?_ | refine blk_alloc ?_ _)); exact BK221.out) hb); have n1_ := Aside0.mk (blk_below (g := gb222) (o := .cells #[.int .i64 a1_0, .int .i64 a1_1] 27 (0, 0)) (by (with_reducible repeat (first | refine blk_drewN ?_ _ | refine blk_drew ?_ | refine blk_alloc ?_ _)); exact BK222.out) hb); have n2_ := Aside0.mk (below_step (by repeat (first | (with_reducible first | exact HB.out | apply below_alloc | apply pw_below_drewN | apply below_drew1 | refine below_set ?_ GE221.out | refine below_set ?_ GE222.out) | exact HB.out)) hb); clear BK221; clear BK222; clear HB; have BK221 := n0_; have BK222 := n1_; have HB := n2_; clear n0_ n1_ n2_; (try clear hb); (try clear hb2); (try clear hk); (try clear hi)))
            repeat (go_quiet (first | ((with_reducible refine gate_dst (N := 3) rfl ?_); refine box_event ?hg (N := 3) ?hd (cs := #[.slice A0_0 l0_0.length c0_0, .slice A0_1 l0_1.length c0_1, .slice A0_2 l0_2.length c0_2]) (t := 25) ?hr ?_; (case hd => rfl); (case hg => rfl); (case hr => first | (go_simp; done) | (go_simp; rfl)); intro gb221 hg w12 hbox hb; have n0_ := Aside0.mk (below_step (by repeat (first | (with_reducible first | exact HB.out | apply below_alloc | apply pw_below_drewN | apply below_drew1) | exact HB.out)) hb); have n1_ := Aside0.mk (hbox); have n2_ := Aside0.mk ((by rw [hg]; exact (below_size (by repeat (first | (with_reducible first | exact HB.out | apply below_alloc | apply pw_below_drewN | apply below_drew1) | exact HB.out))) : w.heap.size ≤ gb221)); have n3_ := Aside0.mk ((by rw [hg]; exact (below_size (by repeat (first | (with_reducible first | exact HB.out | apply below_alloc | apply pw_below_drewN | apply below_drew1) | exact HB.out))) : w.heap.size ≤ gb221)); clear HB; have HB := n0_; have BK221 := n1_; have GW221 := n2_; have GE221 := n3_; clear n0_ n1_ n2_ n3_; clear hb hbox hg) | ((with_reducible refine gate_dst (N := 4) rfl ?_); refine box_event ?hg (N := 4) ?hd (cs := #[.int .i64 a1_0, .int .i64 a1_1]) (t := 27) ?hr ?_; (case hd => rfl); (case hg => rfl); (case hr => first | (go_simp; done) | (go_simp; rfl)); intro gb222 hg w13 hbox hb; have n0_ := Aside0.mk (blk_below (g := gb221) (o := .cells #[.slice A0_0 l0_0.length c0_0, .slice A0_1 l0_1.length c0_1, .slice A0_2 l0_2.length c0_2] 25 (0, 0)) (by (with_reducible repeat (first | refine blk_drewN ?_ _ | refine blk_drew ?_ | refine blk_alloc ?_ _)); exact BK221.out) hb); have n1_ := Aside0.mk (below_step (by repeat (first | (with_reducible first | exact HB.out | apply below_alloc | apply pw_below_drewN | apply below_drew1 | refine below_set ?_ GE221.out) | exact HB.out)) hb); have n2_ := Aside0.mk (hbox); have n3_ := Aside0.mk ((by rw [hg]; exact (below_size (by repeat (first | (with_reducible first | exact HB.out | apply below_alloc | apply pw_below_drewN | apply below_drew1 | refine below_set ?_ GE221.out) | exact HB.out))) : w.heap.size ≤ gb222)); have n4_ := Aside0.mk ((by rw [hg]; exact (below_size (by repeat (first | (with_reducible first | exact HB.out | apply below_alloc | apply pw_below_drewN | apply below_drew1 | refine below_set ?_ GE221.out) | exact HB.out))) : w.heap.size ≤ gb222)); have n5_ := Aside0.mk ((by rw [hg]; exact Nat.ne_of_lt (blk_lt (g := gb221) (o := .cells #[.slice A0_0 l0_0.length c0_0, .slice A0_1 l0_1.length c0_1, .slice A0_2 l0_2.length c0_2] 25 (0, 0)) (by (with_reducible repeat (first | refine blk_drewN ?_ _ | refine blk_drew ?_ | refine blk_alloc ?_ _)); exact BK221.out)) : gb221 ≠ gb222)); have n6_ := Aside0.mk ((by rw [hg]; exact Nat.ne_of_gt (blk_lt (g := gb221) (o := .cells #[.slice A0_0 l0_0.length c0_0, .slice A0_1 l0_1.length c0_1, .slice A0_2 l0_2.length c0_2] 25 (0, 0)) (by (with_reducible repeat (first | refine blk_drewN ?_ _ | refine blk_drew ?_ | refine blk_alloc ?_ _)); exact BK221.out)) : gb222 ≠ gb221)); clear BK221; clear HB; have BK221 := n0_; have HB := n1_; have BK222 := n2_; have GW222 := n3_; have GE222 := n4_; have NB221_222 := n5_; have NB222_221 := n6_; clear n0_ n1_ n2_ n3_ n4_ n5_ n6_; clear hb hbox hg; have hnb14 := NB221_222.out; have hnc14 := NB222_221.out; have hcz15_0 : w13.cell? ⟨gb221, 0, none⟩ = some (.slice A0_0 l0_0.length c0_0) := (blk_cell BK221.out 0).trans rfl; have hcz15_1 : w13.cell? ⟨gb221, 1, none⟩ = some (.slice A0_1 l0_1.length c0_1) := (blk_cell BK221.out 1).trans rfl; have hcz15_2 : w13.cell? ⟨gb221, 2, none⟩ = some (.slice A0_2 l0_2.length c0_2) := (blk_cell BK221.out 2).trans rfl; have hfz15_0 := blk_frozen BK221.out 0; have hfz15_1 := blk_frozen BK221.out 1; have hfz15_2 := blk_frozen BK221.out 2) | (go_at_call 29; (with_reducible refine (spans_CheckTable.calls _ _ l0_0 _ _ l0_1 _ _ l0_2 t223 _ ?side1 ?side2 ?side3 ?side4 ?side5 ?side6 A4.out).mono ?_); (case side1 => repeat (first | exact (Kd.C_below HR0_0.out HB.out) | (with_reducible refine Kd.C_alloc ?_ _) | (with_reducible refine Kd.C_drewN ?_ _) | (with_reducible refine Kd.C_drew ?_))); (case side2 => exact HC0_0.out); (case side3 => repeat (first | exact (Kd.C_below HR0_1.out HB.out) | (with_reducible refine Kd.C_alloc ?_ _) | (with_reducible refine Kd.C_drewN ?_ _) | (with_reducible refine Kd.C_drew ?_))); (case side4 => exact HC0_1.out); (case side5 => repeat (first | exact (Kd.C_below HR0_2.out HB.out) | (with_reducible refine Kd.C_alloc ?_ _) | (with_reducible refine Kd.C_drewN ?_ _) | (with_reducible refine Kd.C_drew ?_))); (case side6 => exact HC0_2.out); rintro e w16 ⟨rfl, hb⟩; have n0_ := Aside0.mk (blk_below (g := gb221) (o := .cells #[.slice A0_0 l0_0.length c0_0, .slice A0_1 l0_1.length c0_1, .slice A0_2 l0_2.length c0_2] 25 (0, 0)) (by (with_reducible repeat (first | refine blk_drewN ?_ _ | refine blk_drew ?_ | refine blk_alloc ?_ _)); exact BK221.out) hb); have n1_ := Aside0.mk (blk_below (g := gb222) (o := .cells #[.int .i64 a1_0, .int .i64 a1_1] 27 (0, 0)) (by (with_reducible repeat (first | refine blk_drewN ?_ _ | refine blk_drew ?_ | refine blk_alloc ?_ _)); exact BK222.out) hb); have n2_ := Aside0.mk (below_step (by repeat (first | (with_reducible first | exact HB.out | apply below_alloc | apply pw_below_drewN | apply below_drew1 | refine below_set ?_ GE221.out | refine below_set ?_ GE222.out) | exact HB.out)) hb); clear BK221; clear BK222; clear HB; have BK221 := n0_; have BK222 := n1_; have HB := n2_; clear n0_ n1_ n2_; (try clear hb); (try clear hb2); (try clear hk); (try clear hi); have hcz17_0 : w16.cell? ⟨gb221, 0, none⟩ = some (.slice A0_0 l0_0.length c0_0) := (blk_cell BK221.out 0).trans rfl; have hcz17_1 : w16.cell? ⟨gb221, 1, none⟩ = some (.slice A0_1 l0_1.length c0_1) := (blk_cell BK221.out 1).trans rfl; have hcz17_2 : w16.cell? ⟨gb221, 2, none⟩ = some (.slice A0_2 l0_2.length c0_2) := (blk_cell BK221.out 2).trans rfl; have hfz17_0 := blk_frozen BK221.out 0; have hfz17_1 := blk_frozen BK221.out 1; have hfz17_2 := blk_frozen BK221.out 2; have p224 : 0 ≤ (0 : Int) := (by omega); have q224 : 0 < (l0_0.length : Int) := of_decide_eq_true (by first | (with_reducible assumption) | assumption); obtain ⟨ad224, e224, hx224_0⟩ := Kd.at_int HR0_0.out 0 p224 q224; cases e224; have qi224 : (0 < l0_0.length) = True := eq_true (by omega); (try rw [show ((0 : Int)).toNat = 0 from rfl] at hx224_0); (try rw [Addr.add_zero'] at hx224_0); replace hx224_0 := (HB.out.cell (World.block_lt_of_cell? w _ hx224_0)).trans hx224_0; replace p224 := eq_true p224; replace q224 := eq_true q224; have p225 : 0 ≤ ((ji7) : Int) := of_decide_eq_true (by first | (with_reducible assumption) | assumption); have q225 : (ji7) < (l0_0.length : Int) := of_decide_eq_true (by first | (with_reducible assumption) | assumption); obtain ⟨ad225, e225, hx225_0⟩ := Kd.at_int HR0_0.out (ji7) p225 q225; obtain rfl : ad224 = ad225 := (by injection e225); replace hx225_0 := (HB.out.cell (World.block_lt_of_cell? w _ hx225_0)).trans hx225_0; replace p225 := eq_true p225; replace q225 := eq_true q225; have hcz18_0 : w16.cell? ⟨gb222, 0, none⟩ = some (.int .i64 a1_0) := (blk_cell BK222.out 0).trans rfl; have hcz18_1 : w16.cell? ⟨gb222, 1, none⟩ = some (.int .i64 a1_1) := (blk_cell BK222.out 1).trans rfl; have hfz18_0 := blk_frozen BK222.out 0; have hfz18_1 := blk_frozen BK222.out 1) | (go_at_call 88; (with_reducible refine (spans_checkPoints.calls _ _ l0_0 _ _ l0_1 _ _ l0_2 (rd l0_0 0) (rd l0_0 0) a1_0 a1_1 t226 _ ?side1 ?side2 ?side3 ?side4 ?side5 ?side6 A10.out).mono ?_); (case side1 => repeat (first | exact (Kd.C_below HR0_0.out HB.out) | (with_reducible refine Kd.C_alloc ?_ _) | (with_reducible refine Kd.C_drewN ?_ _) | (with_reducible refine Kd.C_drew ?_))); (case side2 => exact HC0_0.out); (case side3 => repeat (first | exact (Kd.C_below HR0_1.out HB.out) | (with_reducible refine Kd.C_alloc ?_ _) | (with_reducible refine Kd.C_drewN ?_ _) | (with_reducible refine Kd.C_drew ?_))); (case side4 => exact HC0_1.out); (case side5 => repeat (first | exact (Kd.C_below HR0_2.out HB.out) | (with_reducible refine Kd.C_alloc ?_ _) | (with_reducible refine Kd.C_drewN ?_ _) | (with_reducible refine Kd.C_drew ?_))); (case side6 => exact HC0_2.out); rintro e w19 ⟨rfl, hb⟩; have n0_ := Aside0.mk (blk_below (g := gb221) (o := .cells #[.slice (some ad224) l0_0.length c0_0, .slice A0_1 l0_1.length c0_1, .slice A0_2 l0_2.length c0_2] 25 (0, 0)) (by (with_reducible repeat (first | refine blk_drewN ?_ _ | refine blk_drew ?_ | refine blk_alloc ?_ _)); exact BK221.out) hb); have n1_ := Aside0.mk (blk_below (g := gb222) (o := .cells #[.int .i64 a1_0, .int .i64 a1_1] 27 (0, 0)) (by (with_reducible repeat (first | refine blk_drewN ?_ _ | refine blk_drew ?_ | refine blk_alloc ?_ _)); exact BK222.out) hb); have n2_ := Aside0.mk (below_step (by repeat (first | (with_reducible first | exact HB.out | apply below_alloc | apply pw_below_drewN | apply below_drew1 | refine below_set ?_ GE221.out | refine below_set ?_ GE222.out) | exact HB.out)) hb); clear BK221; clear BK222; clear HB; have BK221 := n0_; have BK222 := n1_; have HB := n2_; clear n0_ n1_ n2_; (try clear hb); (try clear hb2); (try clear hk); (try clear hi))); try go_wp2_with (first | ((with_reducible refine gate_dst (N := 3) rfl ?_); refine box_event ?hg (N := 3) ?hd (cs := #[.slice A0_0 l0_0.length c0_0, .slice A0_1 l0_1.length c0_1, .slice A0_2 l0_2.length c0_2]) (t := 25) ?hr ?_; (case hd => rfl); (case hg => rfl); (case hr => first | (go_simp; done) | (go_simp; rfl)); intro gb221 hg w12 hbox hb; have n0_ := Aside0.mk (below_step (by repeat (first | (with_reducible first | exact HB.out | apply below_alloc | apply pw_below_drewN | apply below_drew1) | exact HB.out)) hb); have n1_ := Aside0.mk (hbox); have n2_ := Aside0.mk ((by rw [hg]; exact (below_size (by repeat (first | (with_reducible first | exact HB.out | apply below_alloc | apply pw_below_drewN | apply below_drew1) | exact HB.out))) : w.heap.size ≤ gb221)); have n3_ := Aside0.mk ((by rw [hg]; exact (below_size (by repeat (first | (with_reducible first | exact HB.out | apply below_alloc | apply pw_below_drewN | apply below_drew1) | exact HB.out))) : w.heap.size ≤ gb221)); clear HB; have HB := n0_; have BK221 := n1_; have GW221 := n2_; have GE221 := n3_; clear n0_ n1_ n2_ n3_; clear hb hbox hg) | ((with_reducible refine gate_dst (N := 4) rfl ?_); refine box_event ?hg (N := 4) ?hd (cs := #[.int .i64 a1_0, .int .i64 a1_1]) (t := 27) ?hr ?_; (case hd => rfl); (case hg => rfl); (case hr => first | (go_simp; done) | (go_simp; rfl)); intro gb222 hg w13 hbox hb; have n0_ := Aside0.mk (blk_below (g := gb221) (o := .cells #[.slice A0_0 l0_0.length c0_0, .slice A0_1 l0_1.length c0_1, .slice A0_2 l0_2.length c0_2] 25 (0, 0)) (by (with_reducible repeat (first | refine blk_drewN ?_ _ | refine blk_drew ?_ | refine blk_alloc ?_ _)); exact BK221.out) hb); have n1_ := Aside0.mk (below_step (by repeat (first | (with_reducible first | exact HB.out | apply below_alloc | apply pw_below_drewN | apply below_drew1 | refine below_set ?_ GE221.out) | exact HB.out)) hb); have n2_ := Aside0.mk (hbox); have n3_ := Aside0.mk ((by rw [hg]; exact (below_size (by repeat (first | (with_reducible first | exact HB.out | apply below_alloc | apply pw_below_drewN | apply below_drew1 | refine below_set ?_ GE221.out) | exact HB.out))) : w.heap.size ≤ gb222)); have n4_ := Aside0.mk ((by rw [hg]; exact (below_size (by repeat (first | (with_reducible first | exact HB.out | apply below_alloc | apply pw_below_drewN | apply below_drew1 | refine below_set ?_ GE221.out) | exact HB.out))) : w.heap.size ≤ gb222)); have n5_ := Aside0.mk ((by rw [hg]; exact Nat.ne_of_lt (blk_lt (g := gb221) (o := .cells #[.slice A0_0 l0_0.length c0_0, .slice A0_1 l0_1.length c0_1, .slice A0_2 l0_2.length c0_2] 25 (0, 0)) (by (with_reducible repeat (first | refine blk_drewN ?_ _ | refine blk_drew ?_ | refine blk_alloc ?_ _)); exact BK221.out)) : gb221 ≠ gb222)); have n6_ := Aside0.mk ((by rw [hg]; exact Nat.ne_of_gt (blk_lt (g := gb221) (o := .cells #[.slice A0_0 l0_0.length c0_0, .slice A0_1 l0_1.length c0_1, .slice A0_2 l0_2.length c0_2] 25 (0, 0)) (by (with_reducible repeat (first | refine blk_drewN ?_ _ | refine blk_drew ?_ | refine blk_alloc ?_ _)); exact BK221.out)) : gb222 ≠ gb221)); clear BK221; clear HB; have BK221 := n0_; have HB := n1_; have BK222 := n2_; have GW222 := n3_; have GE222 := n4_; have NB221_222 := n5_; have NB222_221 := n6_; clear n0_ n1_ n2_ n3_ n4_ n5_ n6_; clear hb hbox hg; have hnb14 := NB221_222.out; have hnc14 := NB222_221.out; have hcz15_0 : w13.cell? ⟨gb221, 0, none⟩ = some (.slice A0_0 l0_0.length c0_0) := (blk_cell BK221.out 0).trans rfl; have hcz15_1 : w13.cell? ⟨gb221, 1, none⟩ = some (.slice A0_1 l0_1.length c0_1) := (blk_cell BK221.out 1).trans rfl; have hcz15_2 : w13.cell? ⟨gb221, 2, none⟩ = some (.slice A0_2 l0_2.length c0_2) := (blk_cell BK221.out 2).trans rfl; have hfz15_0 := blk_frozen BK221.out 0; have hfz15_1 := blk_frozen BK221.out 1; have hfz15_2 := blk_frozen BK221.out 2) | (go_at_call 29; (with_reducible refine (spans_CheckTable.calls _ _ l0_0 _ _ l0_1 _ _ l0_2 t223 _ ?side1 ?side2 ?side3 ?side4 ?side5 ?side6 A4.out).mono ?_); (case side1 => repeat (first | exact (Kd.C_below HR0_0.out HB.out) | (with_reducible refine Kd.C_alloc ?_ _) | (with_reducible refine Kd.C_drewN ?_ _) | (with_reducible refine Kd.C_drew ?_))); (case side2 => exact HC0_0.out); (case side3 => repeat (first | exact (Kd.C_below HR0_1.out HB.out) | (with_reducible refine Kd.C_alloc ?_ _) | (with_reducible refine Kd.C_drewN ?_ _) | (with_reducible refine Kd.C_drew ?_))); (case side4 => exact HC0_1.out); (case side5 => repeat (first | exact (Kd.C_below HR0_2.out HB.out) | (with_reducible refine Kd.C_alloc ?_ _) | (with_reducible refine Kd.C_drewN ?_ _) | (with_reducible refine Kd.C_drew ?_))); (case side6 => exact HC0_2.out); rintro e w16 ⟨rfl, hb⟩; have n0_ := Aside0.mk (blk_below (g := gb221) (o := .cells #[.slice A0_0 l0_0.length c0_0, .slice A0_1 l0_1.length c0_1, .slice A0_2 l0_2.length c0_2] 25 (0, 0)) (by (with_reducible repeat (first | refine blk_drewN ?_ _ | refine blk_drew ?_ | refine blk_alloc ?_ _)); exact BK221.out) hb); have n1_ := Aside0.mk (blk_below (g := gb222) (o := .cells #[.int .i64 a1_0, .int .i64 a1_1] 27 (0, 0)) (by (with_reducible repeat (first | refine blk_drewN ?_ _ | refine blk_drew ?_ | refine blk_alloc ?_ _)); exact BK222.out) hb); have n2_ := Aside0.mk (below_step (by repeat (first | (with_reducible first | exact HB.out | apply below_alloc | apply pw_below_drewN | apply below_drew1 | refine below_set ?_ GE221.out | refine below_set ?_ GE222.out) | exact HB.out)) hb); clear BK221; clear BK222; clear HB; have BK221 := n0_; have BK222 := n1_; have HB := n2_; clear n0_ n1_ n2_; (try clear hb); (try clear hb2); (try clear hk); (try clear hi); have hcz17_0 : w16.cell? ⟨gb221, 0, none⟩ = some (.slice A0_0 l0_0.length c0_0) := (blk_cell BK221.out 0).trans rfl; have hcz17_1 : w16.cell? ⟨gb221, 1, none⟩ = some (.slice A0_1 l0_1.length c0_1) := (blk_cell BK221.out 1).trans rfl; have hcz17_2 : w16.cell? ⟨gb221, 2, none⟩ = some (.slice A0_2 l0_2.length c0_2) := (blk_cell BK221.out 2).trans rfl; have hfz17_0 := blk_frozen BK221.out 0; have hfz17_1 := blk_frozen BK221.out 1; have hfz17_2 := blk_frozen BK221.out 2; have p224 : 0 ≤ (0 : Int) := (by omega); have q224 : 0 < (l0_0.length : Int) := of_decide_eq_true (by first | (with_reducible assumption) | assumption); obtain ⟨ad224, e224, hx224_0⟩ := Kd.at_int HR0_0.out 0 p224 q224; cases e224; have qi224 : (0 < l0_0.length) = True := eq_true (by omega); (try rw [show ((0 : Int)).toNat = 0 from rfl] at hx224_0); (try rw [Addr.add_zero'] at hx224_0); replace hx224_0 := (HB.out.cell (World.block_lt_of_cell? w _ hx224_0)).trans hx224_0; replace p224 := eq_true p224; replace q224 := eq_true q224; have p225 : 0 ≤ ((ji7) : Int) := of_decide_eq_true (by first | (with_reducible assumption) | assumption); have q225 : (ji7) < (l0_0.length : Int) := of_decide_eq_true (by first | (with_reducible assumption) | assumption); obtain ⟨ad225, e225, hx225_0⟩ := Kd.at_int HR0_0.out (ji7) p225 q225; obtain rfl : ad224 = ad225 := (by injection e225); replace hx225_0 := (HB.out.cell (World.block_lt_of_cell? w _ hx225_0)).trans hx225_0; replace p225 := eq_true p225; replace q225 := eq_true q225; have hcz18_0 : w16.cell? ⟨gb222, 0, none⟩ = some (.int .i64 a1_0) := (blk_cell BK222.out 0).trans rfl; have hcz18_1 : w16.cell? ⟨gb222, 1, none⟩ = some (.int .i64 a1_1) := (blk_cell BK222.out 1).trans rfl; have hfz18_0 := blk_frozen BK222.out 0; have hfz18_1 := blk_frozen BK222.out 1) | (go_at_call 88; (with_reducible refine (spans_checkPoints.calls _ _ l0_0 _ _ l0_1 _ _ l0_2 (rd l0_0 0) (rd l0_0 0) a1_0 a1_1 t226 _ ?side1 ?side2 ?side3 ?side4 ?side5 ?side6 A10.out).mono ?_); (case side1 => repeat (first | exact (Kd.C_below HR0_0.out HB.out) | (with_reducible refine Kd.C_alloc ?_ _) | (with_reducible refine Kd.C_drewN ?_ _) | (with_reducible refine Kd.C_drew ?_))); (case side2 => exact HC0_0.out); (case side3 => repeat (first | exact (Kd.C_below HR0_1.out HB.out) | (with_reducible refine Kd.C_alloc ?_ _) | (with_reducible refine Kd.C_drewN ?_ _) | (with_reducible refine Kd.C_drew ?_))); (case side4 => exact HC0_1.out); (case side5 => repeat (first | exact (Kd.C_below HR0_2.out HB.out) | (with_reducible refine Kd.C_alloc ?_ _) | (with_reducible refine Kd.C_drewN ?_ _) | (with_reducible refine Kd.C_drew ?_))); (case side6 => exact HC0_2.out); rintro e w19 ⟨rfl, hb⟩; have n0_ := Aside0.mk (blk_below (g := gb221) (o := .cells #[.slice (some ad224) l0_0.length c0_0, .slice A0_1 l0_1.length c0_1, .slice A0_2 l0_2.length c0_2] 25 (0, 0)) (by (with_reducible repeat (first | refine blk_drewN ?_ _ | refine blk_drew ?_ | refine blk_alloc ?_ _)); exact BK221.out) hb); have n1_ := Aside0.mk (blk_below (g := gb222) (o := .cells #[.int .i64 a1_0, .int .i64 a1_1] 27 (0, 0)) (by (with_reducible repeat (first | refine blk_drewN ?_ _ | refine blk_drew ?_ | refine blk_alloc ?_ _)); exact BK222.out) hb); have n2_ := Aside0.mk (below_step (by repeat (first | (with_reducible first | exact HB.out | apply below_alloc | apply pw_below_drewN | apply below_drew1 | refine below_set ?_ GE221.out | refine below_set ?_ GE222.out) | exact HB.out)) hb); clear BK221; clear BK222; clear HB; have BK221 := n0_; have BK222 := n1_; have HB := n2_; clear n0_ n1_ n2_; (try clear hb); (try clear hb2); (try clear hk); (try clear hi))))
            go_loopg [12] k (fun kq v12 w' => ∃ (x12_1 : Int), v12 = .int .i64 x12_1 ∧ Aside0 (spans_Greatest.l0 kq a2 (rd l0_0 0) x12_1 l0_0 l0_1 l0_2 a1_0 a1_1 = some (r1, r2)) ∧ Aside0 (kq ≤ k) ∧ Aside0 (w'.heap[gb221]? = some (.cells #[(.slice (some ad224) l0_0.length c0_0), (.slice A0_1 l0_1.length c0_1), (.slice A0_2 l0_2.length c0_2)] 25 (0, 0))) ∧ Aside0 (w'.heap[gb222]? = some (.cells #[.int .i64 a1_0, .int .i64 a1_1] 27 (0, 0))) ∧ Aside0 (Below w.heap.size w w'))
            case atStart => exact ⟨(rd l0_0 (ji7)), (by first | rfl | (simp; done) | (simp only [← hji7] <;> (first | rfl | simp)) | (simp [*]; done)), H', ⟨Nat.le_refl _⟩, ⟨by (with_reducible repeat (first | refine blk_drewN ?_ _ | refine blk_drew ?_ | refine blk_alloc ?_ _)); exact BK221.out⟩, ⟨by (with_reducible repeat (first | refine blk_drewN ?_ _ | refine blk_drew ?_ | refine blk_alloc ?_ _)); exact BK222.out⟩, ⟨by repeat (first | (with_reducible first | exact HB.out | apply below_alloc | apply pw_below_drewN | apply below_drew1 | refine below_set ?_ GE221.out | refine below_set ?_ GE222.out) | exact HB.out)⟩⟩
            case round =>
              clear H'
              try clear c1
              try clear c2
              try clear p2
              try clear q2
              try clear hx2
              try clear qi2
              try clear c5
              try clear c5b0
              try clear c5b1
              try clear c6
              try clear c6b0
              try clear c6b1
              try clear p6
              try clear c8
              try clear c8b0
              try clear c9
              try clear c9b0
              try clear c11
              try clear c11b0
              try clear c11b1
              try clear c14
              try clear hcz15_0
              try clear hcz15_1
              try clear hcz15_2
              try clear hcz17_0
              try clear hcz17_1
              try clear hcz17_2
              try clear hcz18_0
              try clear hcz18_1
              try clear hfz15_0
              try clear hfz15_1
              try clear hfz15_2
              try clear hfz17_0
              try clear hfz17_1
              try clear hfz17_2
              try clear hfz18_0
              try clear hfz18_1
              try clear hx224_0
              try clear hx225_0
              try clear p224
              try clear p225
              try clear q224
              try clear q225
              obtain ⟨x12_1, rfl, HA, HK1, BK221, BK222, HB⟩ := hrel
              cases gk with
              | zero => exact absurd HA.out (by simp [spans_Greatest.l0])
              | succ k1 =>
                have H := HA.out
                clear HA
                simp only [spans_Greatest.l0] at H
                by_cases c20 : x12_1 ≥ (rd l0_0 0)
                · rw [if_pos c20] at H
                  have c20b0 : decide ((rd l0_0 0) ≤ x12_1) = true := decide_eq_true c20
                  clear c20
                  replace H := Option.bind_eq_some_iff.mp H
                  obtain ⟨⟨t227, t228, t229, t230, t231, t232, t233, t234⟩, A210, H⟩ := H
                  replace H : ((spans_value_up.f t233 t234).bind fun t237 => (if t237 ≤ a2 then (some (x12_1, 0)) else (spans_Greatest.l0 k1 a2 (rd l0_0 0) (wrap64 (x12_1 - 1)) l0_0 l0_1 l0_2 a1_0 a1_1))) = some (r1, r2) := H
                  have A21 := Aside0.mk A210
                  clear A210
                  replace H := Option.bind_eq_some_iff.mp H
                  obtain ⟨t237, A220, H⟩ := H
                  replace H : (if t237 ≤ a2 then (some (x12_1, 0)) else (spans_Greatest.l0 k1 a2 (rd l0_0 0) (wrap64 (x12_1 - 1)) l0_0 l0_1 l0_2 a1_0 a1_1)) = some (r1, r2) := H
                  have A22 := Aside0.mk A220
                  clear A220
                  by_cases c23 : t237 ≤ a2
                  · rw [if_pos c23] at H
                    have c23b0 : decide (t237 ≤ a2) = true := decide_eq_true c23
                    clear c23
                    simp only [Option.some.injEq, Prod.mk.injEq] at H
                    obtain ⟨rfl, rfl⟩ := H
                    have hnb24 := NB221_222.out
                    have hnc24 := NB222_221.out
                    have hcz25_0 : wr.cell? ⟨gb221, 0, none⟩ = some (.slice (some ad224) l0_0.length c0_0) := (blk_cell BK221.out 0).trans rfl
                    have hcz25_1 : wr.cell? ⟨gb221, 1, none⟩ = some (.slice A0_1 l0_1.length c0_1) := (blk_cell BK221.out 1).trans rfl
                    have hcz25_2 : wr.cell? ⟨gb221, 2, none⟩ = some (.slice A0_2 l0_2.length c0_2) := (blk_cell BK221.out 2).trans rfl
                    have hfz25_0 := blk_frozen BK221.out 0
                    have hfz25_1 := blk_frozen BK221.out 1
                    have hfz25_2 := blk_frozen BK221.out 2
                    have hcz26_0 : wr.cell? ⟨gb222, 0, none⟩ = some (.int .i64 a1_0) := (blk_cell BK222.out 0).trans rfl
                    have hcz26_1 : wr.cell? ⟨gb222, 1, none⟩ = some (.int .i64 a1_1) := (blk_cell BK222.out 1).trans rfl
                    have hfz26_0 := blk_frozen BK222.out 0
                    have hfz26_1 := blk_frozen BK222.out 1
                    go_wp2_with (first | (go_at_call 89; (with_reducible refine (spans_extremes.calls _ _ l0_0 _ _ l0_1 _ _ l0_2 x12_1 x12_1 a1_0 a1_1 t227 t228 t229 t230 t231 t232 t233 t234 _ ?side1 ?side2 ?side3 ?side4 ?side5 ?side6 A21.out).mono ?_); (case side1 => repeat (first | exact (Kd.C_below HR0_0.out HB.out) | (with_reducible refine Kd.C_alloc ?_ _) | (with_reducible refine Kd.C_drewN ?_ _) | (with_reducible refine Kd.C_drew ?_))); (case side2 => exact HC0_0.out); (case side3 => repeat (first | exact (Kd.C_below HR0_1.out HB.out) | (with_reducible refine Kd.C_alloc ?_ _) | (with_reducible refine Kd.C_drewN ?_ _) | (with_reducible refine Kd.C_drew ?_))); (case side4 => exact HC0_1.out); (case side5 => repeat (first | exact (Kd.C_below HR0_2.out HB.out) | (with_reducible refine Kd.C_alloc ?_ _) | (with_reducible refine Kd.C_drewN ?_ _) | (with_reducible refine Kd.C_drew ?_))); (case side6 => exact HC0_2.out); rintro e w27 ⟨rfl, hb⟩; have n0_ := Aside0.mk (blk_below (g := gb221) (o := .cells #[.slice (some ad224) l0_0.length c0_0, .slice A0_1 l0_1.length c0_1, .slice A0_2 l0_2.length c0_2] 25 (0, 0)) (by (with_reducible repeat (first | refine blk_drewN ?_ _ | refine blk_drew ?_ | refine blk_alloc ?_ _)); exact BK221.out) hb); have n1_ := Aside0.mk (blk_below (g := gb222) (o := .cells #[.int .i64 a1_0, .int .i64 a1_1] 27 (0, 0)) (by (with_reducible repeat (first | refine blk_drewN ?_ _ | refine blk_drew ?_ | refine blk_alloc ?_ _)); exact BK222.out) hb); have n2_ := Aside0.mk (below_step (by repeat (first | (with_reducible first | exact HB.out | apply below_alloc | apply pw_below_drewN | apply below_drew1 | refine below_set ?_ GE221.out | refine below_set ?_ GE222.out) | exact HB.out)) hb); clear BK221; clear BK222; clear HB; have BK221 := n0_; have BK222 := n1_; have HB := n2_; clear n0_ n1_ n2_; (try clear hb); (try clear hb2); (try clear hk); (try clear hi)) | ((with_reducible refine gate_dst (N := 13) rfl ?_); refine box_event ?hg (N := 13) ?hd (cs := #[.int .i64 0, .int .i64 0, .int .i64 0, .int .i64 0]) (t := 133) ?hr ?_; (case hd => rfl); (case hg => rfl); (case hr => first | (go_simp; done) | (go_simp; rfl)); intro gb235 hg w28 hbox hb; have n0_ := Aside0.mk (blk_below (g := gb221) (o := .cells #[.slice (some ad224) l0_0.length c0_0, .slice A0_1 l0_1.length c0_1, .slice A0_2 l0_2.length c0_2] 25 (0, 0)) (by (with_reducible repeat (first | refine blk_drewN ?_ _ | refine blk_drew ?_ | refine blk_alloc ?_ _)); exact BK221.out) hb); have n1_ := Aside0.mk (blk_below (g := gb222) (o := .cells #[.int .i64 a1_0, .int .i64 a1_1] 27 (0, 0)) (by (with_reducible repeat (first | refine blk_drewN ?_ _ | refine blk_drew ?_ | refine blk_alloc ?_ _)); exact BK222.out) hb); have n2_ := Aside0.mk (below_step (by repeat (first | (with_reducible first | exact HB.out | apply below_alloc | apply pw_below_drewN | apply below_drew1 | refine below_set ?_ GE221.out | refine below_set ?_ GE222.out) | exact HB.out)) hb); have n3_ := Aside0.mk (hbox); have n4_ := Aside0.mk ((by rw [hg]; exact (below_size (by repeat (first | (with_reducible first | exact HB.out | apply below_alloc | apply pw_below_drewN | apply below_drew1 | refine below_set ?_ GE221.out | refine below_set ?_ GE222.out) | exact HB.out))) : w.heap.size ≤ gb235)); have n5_ := Aside0.mk ((by rw [hg]; exact (below_size (by repeat (first | (with_reducible first | exact HB.out | apply below_alloc | apply pw_below_drewN | apply below_drew1 | refine below_set ?_ GE221.out | refine below_set ?_ GE222.out) | exact HB.out))) : w.heap.size ≤ gb235)); have n6_ := Aside0.mk ((by rw [hg]; exact Nat.ne_of_lt (blk_lt (g := gb221) (o := .cells #[.slice (some ad224) l0_0.length c0_0, .slice A0_1 l0_1.length c0_1, .slice A0_2 l0_2.length c0_2] 25 (0, 0)) (by (with_reducible repeat (first | refine blk_drewN ?_ _ | refine blk_drew ?_ | refine blk_alloc ?_ _)); exact BK221.out)) : gb221 ≠ gb235)); have n7_ := Aside0.mk ((by rw [hg]; exact Nat.ne_of_gt (blk_lt (g := gb221) (o := .cells #[.slice (some ad224) l0_0.length c0_0, .slice A0_1 l0_1.length c0_1, .slice A0_2 l0_2.length c0_2] 25 (0, 0)) (by (with_reducible repeat (first | refine blk_drewN ?_ _ | refine blk_drew ?_ | refine blk_alloc ?_ _)); exact BK221.out)) : gb235 ≠ gb221)); have n8_ := Aside0.mk ((by rw [hg]; exact Nat.ne_of_lt (blk_lt (g := gb222) (o := .cells #[.int .i64 a1_0, .int .i64 a1_1] 27 (0, 0)) (by (with_reducible repeat (first | refine blk_drewN ?_ _ | refine blk_drew ?_ | refine blk_alloc ?_ _)); exact BK222.out)) : gb222 ≠ gb235)); have n9_ := Aside0.mk ((by rw [hg]; exact Nat.ne_of_gt (blk_lt (g := gb222) (o := .cells #[.int .i64 a1_0, .int .i64 a1_1] 27 (0, 0)) (by (with_reducible repeat (first | refine blk_drewN ?_ _ | refine blk_drew ?_ | refine blk_alloc ?_ _)); exact BK222.out)) : gb235 ≠ gb222)); clear BK221; clear BK222; clear HB; have BK221 := n0_; have BK222 := n1_; have HB := n2_; have BK235 := n3_; have GW235 := n4_; have GE235 := n5_; have NB221_235 := n6_; have NB235_221 := n7_; have NB222_235 := n8_; have NB235_222 := n9_; clear n0_ n1_ n2_ n3_ n4_ n5_ n6_ n7_ n8_ n9_; clear hb hbox hg) | ((with_reducible refine gate_dst (N := 14) rfl ?_); refine box_event ?hg (N := 14) ?hd (cs := #[.int .i64 0, .int .i64 0, .int .i64 0, .int .i64 0]) (t := 133) ?hr ?_; (case hd => rfl); (case hg => rfl); (case hr => first | (go_simp; done) | (go_simp; rfl)); intro gb236 hg w29 hbox hb; have n0_ := Aside0.mk (blk_below (g := gb221) (o := .cells #[.slice (some ad224) l0_0.length c0_0, .slice A0_1 l0_1.length c0_1, .slice A0_2 l0_2.length c0_2] 25 (0, 0)) (by (with_reducible repeat (first | refine blk_drewN ?_ _ | refine blk_drew ?_ | refine blk_alloc ?_ _)); exact BK221.out) hb); have n1_ := Aside0.mk (blk_below (g := gb222) (o := .cells #[.int .i64 a1_0, .int .i64 a1_1] 27 (0, 0)) (by (with_reducible repeat (first | refine blk_drewN ?_ _ | refine blk_drew ?_ | refine blk_alloc ?_ _)); exact BK222.out) hb); have n2_ := Aside0.mk (blk_below (g := gb235) (o := .cells #[.int .i64 0, .int .i64 0, .int .i64 0, .int .i64 0] 133 (0, 0)) (by (with_reducible repeat (first | refine blk_drewN ?_ _ | refine blk_drew ?_ | refine blk_alloc ?_ _)); exact BK235.out) hb); have n3_ := Aside0.mk (below_step (by repeat (first | (with_reducible first | exact HB.out | apply below_alloc | apply pw_below_drewN | apply below_drew1 | refine below_set ?_ GE221.out | refine below_set ?_ GE222.out | refine below_set ?_ GE235.out) | exact HB.out)) hb); have n4_ := Aside0.mk (hbox); have n5_ := Aside0.mk ((by rw [hg]; exact (below_size (by repeat (first | (with_reducible first | exact HB.out | apply below_alloc | apply pw_below_drewN | apply below_drew1 | refine below_set ?_ GE221.out | refine below_set ?_ GE222.out | refine below_set ?_ GE235.out) | exact HB.out))) : w.heap.size ≤ gb236)); have n6_ := Aside0.mk ((by rw [hg]; exact (below_size (by repeat (first | (with_reducible first | exact HB.out | apply below_alloc | apply pw_below_drewN | apply below_drew1 | refine below_set ?_ GE221.out | refine below_set ?_ GE222.out | refine below_set ?_ GE235.out) | exact HB.out))) : w.heap.size ≤ gb236)); have n7_ := Aside0.mk ((by rw [hg]; exact Nat.ne_of_lt (blk_lt (g := gb221) (o := .cells #[.slice (some ad224) l0_0.length c0_0, .slice A0_1 l0_1.length c0_1, .slice A0_2 l0_2.length c0_2] 25 (0, 0)) (by (with_reducible repeat (first | refine blk_drewN ?_ _ | refine blk_drew ?_ | refine blk_alloc ?_ _)); exact BK221.out)) : gb221 ≠ gb236)); have n8_ := Aside0.mk ((by rw [hg]; exact Nat.ne_of_gt (blk_lt (g := gb221) (o := .cells #[.slice (some ad224) l0_0.length c0_0, .slice A0_1 l0_1.length c0_1, .slice A0_2 l0_2.length c0_2] 25 (0, 0)) (by (with_reducible repeat (first | refine blk_drewN ?_ _ | refine blk_drew ?_ | refine blk_alloc ?_ _)); exact BK221.out)) : gb236 ≠ gb221)); have n9_ := Aside0.mk ((by rw [hg]; exact Nat.ne_of_lt (blk_lt (g := gb222) (o := .cells #[.int .i64 a1_0, .int .i64 a1_1] 27 (0, 0)) (by (with_reducible repeat (first | refine blk_drewN ?_ _ | refine blk_drew ?_ | refine blk_alloc ?_ _)); exact BK222.out)) : gb222 ≠ gb236)); have n10_ := Aside0.mk ((by rw [hg]; exact Nat.ne_of_gt (blk_lt (g := gb222) (o := .cells #[.int .i64 a1_0, .int .i64 a1_1] 27 (0, 0)) (by (with_reducible repeat (first | refine blk_drewN ?_ _ | refine blk_drew ?_ | refine blk_alloc ?_ _)); exact BK222.out)) : gb236 ≠ gb222)); have n11_ := Aside0.mk ((by rw [hg]; exact Nat.ne_of_lt (blk_lt (g := gb235) (o := .cells #[.int .i64 0, .int .i64 0, .int .i64 0, .int .i64 0] 133 (0, 0)) (by (with_reducible repeat (first | refine blk_drewN ?_ _ | refine blk_drew ?_ | refine blk_alloc ?_ _)); exact BK235.out)) : gb235 ≠ gb236)); have n12_ := Aside0.mk ((by rw [hg]; exact Nat.ne_of_gt (blk_lt (g := gb235) (o := .cells #[.int .i64 0, .int .i64 0, .int .i64 0, .int .i64 0] 133 (0, 0)) (by (with_reducible repeat (first | refine blk_drewN ?_ _ | refine blk_drew ?_ | refine blk_alloc ?_ _)); exact BK235.out)) : gb236 ≠ gb235)); clear BK221; clear BK222; clear BK235; clear HB; have BK221 := n0_; have BK222 := n1_; have BK235 := n2_; have HB := n3_; have BK236 := n4_; have GW236 := n5_; have GE236 := n6_; have NB221_236 := n7_; have NB236_221 := n8_; have NB222_236 := n9_; have NB236_222 := n10_; have NB235_236 := n11_; have NB236_235 := n12_; clear n0_ n1_ n2_ n3_ n4_ n5_ n6_ n7_ n8_ n9_ n10_ n11_ n12_; clear hb hbox hg; have hnb30 := NB235_221.out; have hnc30 := NB221_235.out; have hnb31 := NB235_222.out; have hnc31 := NB222_235.out; have hnb32 := NB235_236.out; have hnc32 := NB236_235.out; have hcz33_0 : w29.cell? ⟨gb235, 0, none⟩ = some (.int .i64 0) := (blk_cell BK235.out 0).trans rfl; have hcz33_1 : w29.cell? ⟨gb235, 1, none⟩ = some (.int .i64 0) := (blk_cell BK235.out 1).trans rfl; have hcz33_2 : w29.cell? ⟨gb235, 2, none⟩ = some (.int .i64 0) := (blk_cell BK235.out 2).trans rfl; have hcz33_3 : w29.cell? ⟨gb235, 3, none⟩ = some (.int .i64 0) := (blk_cell BK235.out 3).trans rfl; have hfz33_0 := blk_frozen BK235.out 0; have hfz33_1 := blk_frozen BK235.out 1; have hfz33_2 := blk_frozen BK235.out 2; have hfz33_3 := blk_frozen BK235.out 3; have hnb34 := NB236_221.out; have hnc34 := NB221_236.out; have hnb35 := NB236_222.out; have hnc35 := NB222_236.out; have hcz36_0 : w29.cell? ⟨gb236, 0, none⟩ = some (.int .i64 0) := (blk_cell BK236.out 0).trans rfl; have hcz36_1 : w29.cell? ⟨gb236, 1, none⟩ = some (.int .i64 0) := (blk_cell BK236.out 1).trans rfl; have hcz36_2 : w29.cell? ⟨gb236, 2, none⟩ = some (.int .i64 0) := (blk_cell BK236.out 2).trans rfl; have hcz36_3 : w29.cell? ⟨gb236, 3, none⟩ = some (.int .i64 0) := (blk_cell BK236.out 3).trans rfl; have hfz36_0 := blk_frozen BK236.out 0; have hfz36_1 := blk_frozen BK236.out 1; have hfz36_2 := blk_frozen BK236.out 2; have hfz36_3 := blk_frozen BK236.out 3) | (go_at_call 90; (with_reducible refine (spans_value_up.calls t233 t234 t237 _ A22.out).mono ?_); rintro e w37 ⟨rfl, hb⟩; have n0_ := Aside0.mk (blk_below (g := gb221) (o := .cells #[.slice (some ad224) l0_0.length c0_0, .slice A0_1 l0_1.length c0_1, .slice A0_2 l0_2.length c0_2] 25 (0, 0)) (by (with_reducible repeat (first | refine blk_drewN ?_ _ | refine blk_drew ?_ | refine blk_alloc ?_ _)); refine blk_far ?_ NB221_236.out _; (with_reducible repeat (first | refine blk_drewN ?_ _ | refine blk_drew ?_ | refine blk_alloc ?_ _)); refine blk_far ?_ NB221_236.out _; (with_reducible repeat (first | refine blk_drewN ?_ _ | refine blk_drew ?_ | refine blk_alloc ?_ _)); refine blk_far ?_ NB221_236.out _; (with_reducible repeat (first | refine blk_drewN ?_ _ | refine blk_drew ?_ | refine blk_alloc ?_ _)); refine blk_far ?_ NB221_236.out _; (with_reducible repeat (first | refine blk_drewN ?_ _ | refine blk_drew ?_ | refine blk_alloc ?_ _)); refine blk_far ?_ NB221_235.out _; (with_reducible repeat (first | refine blk_drewN ?_ _ | refine blk_drew ?_ | refine blk_alloc ?_ _)); refine blk_far ?_ NB221_235.out _; (with_reducible repeat (first | refine blk_drewN ?_ _ | refine blk_drew ?_ | refine blk_alloc ?_ _)); refine blk_far ?_ NB221_235.out _; (with_reducible repeat (first | refine blk_drewN ?_ _ | refine blk_drew ?_ | refine blk_alloc ?_ _)); refine blk_far ?_ NB221_235.out _; (with_reducible repeat (first | refine blk_drewN ?_ _ | refine blk_drew ?_ | refine blk_alloc ?_ _)); exact BK221.out) hb); have n1_ := Aside0.mk (blk_below (g := gb222) (o := .cells #[.int .i64 a1_0, .int .i64 a1_1] 27 (0, 0)) (by (with_reducible repeat (first | refine blk_drewN ?_ _ | refine blk_drew ?_ | refine blk_alloc ?_ _)); refine blk_far ?_ NB222_236.out _; (with_reducible repeat (first | refine blk_drewN ?_ _ | refine blk_drew ?_ | refine blk_alloc ?_ _)); refine blk_far ?_ NB222_236.out _; (with_reducible repeat (first | refine blk_drewN ?_ _ | refine blk_drew ?_ | refine blk_alloc ?_ _)); refine blk_far ?_ NB222_236.out _; (with_reducible repeat (first | refine blk_drewN ?_ _ | refine blk_drew ?_ | refine blk_alloc ?_ _)); refine blk_far ?_ NB222_236.out _; (with_reducible repeat (first | refine blk_drewN ?_ _ | refine blk_drew ?_ | refine blk_alloc ?_ _)); refine blk_far ?_ NB222_235.out _; (with_reducible repeat (first | refine blk_drewN ?_ _ | refine blk_drew ?_ | refine blk_alloc ?_ _)); refine blk_far ?_ NB222_235.out _; (with_reducible repeat (first | refine blk_drewN ?_ _ | refine blk_drew ?_ | refine blk_alloc ?_ _)); refine blk_far ?_ NB222_235.out _; (with_reducible repeat (first | refine blk_drewN ?_ _ | refine blk_drew ?_ | refine blk_alloc ?_ _)); refine blk_far ?_ NB222_235.out _; (with_reducible repeat (first | refine blk_drewN ?_ _ | refine blk_drew ?_ | refine blk_alloc ?_ _)); exact BK222.out) hb); have n2_ := Aside0.mk (blk_below (g := gb235) (o := .cells #[.int .i64 t227, .int .i64 t228, .int .i64 t229, .int .i64 t230] 133 (0, 0)) (by (with_reducible repeat (first | refine blk_drewN ?_ _ | refine blk_drew ?_ | refine blk_alloc ?_ _)); refine blk_far ?_ NB235_236.out _; (with_reducible repeat (first | refine blk_drewN ?_ _ | refine blk_drew ?_ | refine blk_alloc ?_ _)); refine blk_far ?_ NB235_236.out _; (with_reducible repeat (first | refine blk_drewN ?_ _ | refine blk_drew ?_ | refine blk_alloc ?_ _)); refine blk_far ?_ NB235_236.out _; (with_reducible repeat (first | refine blk_drewN ?_ _ | refine blk_drew ?_ | refine blk_alloc ?_ _)); refine blk_far ?_ NB235_236.out _; (with_reducible repeat (first | refine blk_drewN ?_ _ | refine blk_drew ?_ | refine blk_alloc ?_ _)); refine blk_put (cs := #[.int .i64 t227, .int .i64 t228, .int .i64 t229, .int .i64 0]) ?_ 3 _ rfl; (with_reducible repeat (first | refine blk_drewN ?_ _ | refine blk_drew ?_ | refine blk_alloc ?_ _)); refine blk_put (cs := #[.int .i64 t227, .int .i64 t228, .int .i64 0, .int .i64 0]) ?_ 2 _ rfl; (with_reducible repeat (first | refine blk_drewN ?_ _ | refine blk_drew ?_ | refine blk_alloc ?_ _)); refine blk_put (cs := #[.int .i64 t227, .int .i64 0, .int .i64 0, .int .i64 0]) ?_ 1 _ rfl; (with_reducible repeat (first | refine blk_drewN ?_ _ | refine blk_drew ?_ | refine blk_alloc ?_ _)); refine blk_put (cs := #[.int .i64 0, .int .i64 0, .int .i64 0, .int .i64 0]) ?_ 0 _ rfl; (with_reducible repeat (first | refine blk_drewN ?_ _ | refine blk_drew ?_ | refine blk_alloc ?_ _)); exact BK235.out) hb); have n3_ := Aside0.mk (blk_below (g := gb236) (o := .cells #[.int .i64 t231, .int .i64 t232, .int .i64 t233, .int .i64 t234] 133 (0, 0)) (by (with_reducible repeat (first | refine blk_drewN ?_ _ | refine blk_drew ?_ | refine blk_alloc ?_ _)); refine blk_put (cs := #[.int .i64 t231, .int .i64 t232, .int .i64 t233, .int .i64 0]) ?_ 3 _ rfl; (with_reducible repeat (first | refine blk_drewN ?_ _ | refine blk_drew ?_ | refine blk_alloc ?_ _)); refine blk_put (cs := #[.int .i64 t231, .int .i64 t232, .int .i64 0, .int .i64 0]) ?_ 2 _ rfl; (with_reducible repeat (first | refine blk_drewN ?_ _ | refine blk_drew ?_ | refine blk_alloc ?_ _)); refine blk_put (cs := #[.int .i64 t231, .int .i64 0, .int .i64 0, .int .i64 0]) ?_ 1 _ rfl; (with_reducible repeat (first | refine blk_drewN ?_ _ | refine blk_drew ?_ | refine blk_alloc ?_ _)); refine blk_put (cs := #[.int .i64 0, .int .i64 0, .int .i64 0, .int .i64 0]) ?_ 0 _ rfl; (with_reducible repeat (first | refine blk_drewN ?_ _ | refine blk_drew ?_ | refine blk_alloc ?_ _)); refine blk_far ?_ NB236_235.out _; (with_reducible repeat (first | refine blk_drewN ?_ _ | refine blk_drew ?_ | refine blk_alloc ?_ _)); refine blk_far ?_ NB236_235.out _; (with_reducible repeat (first | refine blk_drewN ?_ _ | refine blk_drew ?_ | refine blk_alloc ?_ _)); refine blk_far ?_ NB236_235.out _; (with_reducible repeat (first | refine blk_drewN ?_ _ | refine blk_drew ?_ | refine blk_alloc ?_ _)); refine blk_far ?_ NB236_235.out _; (with_reducible repeat (first | refine blk_drewN ?_ _ | refine blk_drew ?_ | refine blk_alloc ?_ _)); exact BK236.out) hb); have n4_ := Aside0.mk (below_step (by repeat (first | (with_reducible first | exact HB.out | apply below_alloc | apply pw_below_drewN | apply below_drew1 | refine below_set ?_ GE221.out | refine below_set ?_ GE222.out | refine below_set ?_ GE235.out | refine below_set ?_ GE236.out) | exact HB.out)) hb); clear BK221; clear BK222; clear BK235; clear BK236; clear HB; have BK221 := n0_; have BK222 := n1_; have BK235 := n2_; have BK236 := n3_; have HB := n4_; clear n0_ n1_ n2_ n3_ n4_; (try clear hb); (try clear hb2); (try clear hk); (try clear hi)))
                    go_ret2
                    exact ⟨by first | rfl | (simp [errW_none, errW_some] <;> rfl) | (simp only [← hji7]; first | rfl | (simp [errW_none, errW_some] <;> rfl)) | (simp [*, errW_none, errW_some] <;> rfl), by repeat (first | (with_reducible first | exact HB.out | apply below_alloc | apply pw_below_drewN | apply below_drew1 | refine below_set ?_ GE221.out | refine below_set ?_ GE222.out | refine below_set ?_ GE235.out | refine below_set ?_ GE236.out) | exact HB.out)⟩
                  · rw [if_neg c23] at H
                    have c23b0 : decide (t237 ≤ a2) = false := decide_eq_false c23
                    clear c23
                    have H' := Aside0.mk H
                    clear H
                    have hnb38 := NB221_222.out
                    have hnc38 := NB222_221.out
                    have hcz39_0 : wr.cell? ⟨gb221, 0, none⟩ = some (.slice (some ad224) l0_0.length c0_0) := (blk_cell BK221.out 0).trans rfl
                    have hcz39_1 : wr.cell? ⟨gb221, 1, none⟩ = some (.slice A0_1 l0_1.length c0_1) := (blk_cell BK221.out 1).trans rfl
                    have hcz39_2 : wr.cell? ⟨gb221, 2, none⟩ = some (.slice A0_2 l0_2.length c0_2) := (blk_cell BK221.out 2).trans rfl
                    have hfz39_0 := blk_frozen BK221.out 0
                    have hfz39_1 := blk_frozen BK221.out 1
                    have hfz39_2 := blk_frozen BK221.out 2
                    have hcz40_0 : wr.cell? ⟨gb222, 0, none⟩ = some (.int .i64 a1_0) := (blk_cell BK222.out 0).trans rfl
                    have hcz40_1 : wr.cell? ⟨gb222, 1, none⟩ = some (.int .i64 a1_1) := (blk_cell BK222.out 1).trans rfl
                    have hfz40_0 := blk_frozen BK222.out 0
                    have hfz40_1 := blk_frozen BK222.out 1
                    go_wp2_with (first | (go_at_call 89; (with_reducible refine (spans_extremes.calls _ _ l0_0 _ _ l0_1 _ _ l0_2 x12_1 x12_1 a1_0 a1_1 t227 t228 t229 t230 t231 t232 t233 t234 _ ?side1 ?side2 ?side3 ?side4 ?side5 ?side6 A21.out).mono ?_); (case side1 => repeat (first | exact (Kd.C_below HR0_0.out HB.out) | (with_reducible refine Kd.C_alloc ?_ _) | (with_reducible refine Kd.C_drewN ?_ _) | (with_reducible refine Kd.C_drew ?_))); (case side2 => exact HC0_0.out); (case side3 => repeat (first | exact (Kd.C_below HR0_1.out HB.out) | (with_reducible refine Kd.C_alloc ?_ _) | (with_reducible refine Kd.C_drewN ?_ _) | (with_reducible refine Kd.C_drew ?_))); (case side4 => exact HC0_1.out); (case side5 => repeat (first | exact (Kd.C_below HR0_2.out HB.out) | (with_reducible refine Kd.C_alloc ?_ _) | (with_reducible refine Kd.C_drewN ?_ _) | (with_reducible refine Kd.C_drew ?_))); (case side6 => exact HC0_2.out); rintro e w41 ⟨rfl, hb⟩; have n0_ := Aside0.mk (blk_below (g := gb221) (o := .cells #[.slice (some ad224) l0_0.length c0_0, .slice A0_1 l0_1.length c0_1, .slice A0_2 l0_2.length c0_2] 25 (0, 0)) (by (with_reducible repeat (first | refine blk_drewN ?_ _ | refine blk_drew ?_ | refine blk_alloc ?_ _)); exact BK221.out) hb); have n1_ := Aside0.mk (blk_below (g := gb222) (o := .cells #[.int .i64 a1_0, .int .i64 a1_1] 27 (0, 0)) (by (with_reducible repeat (first | refine blk_drewN ?_ _ | refine blk_drew ?_ | refine blk_alloc ?_ _)); exact BK222.out) hb); have n2_ := Aside0.mk (below_step (by repeat (first | (with_reducible first | exact HB.out | apply below_alloc | apply pw_below_drewN | apply below_drew1 | refine below_set ?_ GE221.out | refine below_set ?_ GE222.out) | exact HB.out)) hb); clear BK221; clear BK222; clear HB; have BK221 := n0_; have BK222 := n1_; have HB := n2_; clear n0_ n1_ n2_; (try clear hb); (try clear hb2); (try clear hk); (try clear hi)) | ((with_reducible refine gate_dst (N := 13) rfl ?_); refine box_event ?hg (N := 13) ?hd (cs := #[.int .i64 0, .int .i64 0, .int .i64 0, .int .i64 0]) (t := 133) ?hr ?_; (case hd => rfl); (case hg => rfl); (case hr => first | (go_simp; done) | (go_simp; rfl)); intro gb235 hg w42 hbox hb; have n0_ := Aside0.mk (blk_below (g := gb221) (o := .cells #[.slice (some ad224) l0_0.length c0_0, .slice A0_1 l0_1.length c0_1, .slice A0_2 l0_2.length c0_2] 25 (0, 0)) (by (with_reducible repeat (first | refine blk_drewN ?_ _ | refine blk_drew ?_ | refine blk_alloc ?_ _)); exact BK221.out) hb); have n1_ := Aside0.mk (blk_below (g := gb222) (o := .cells #[.int .i64 a1_0, .int .i64 a1_1] 27 (0, 0)) (by (with_reducible repeat (first | refine blk_drewN ?_ _ | refine blk_drew ?_ | refine blk_alloc ?_ _)); exact BK222.out) hb); have n2_ := Aside0.mk (below_step (by repeat (first | (with_reducible first | exact HB.out | apply below_alloc | apply pw_below_drewN | apply below_drew1 | refine below_set ?_ GE221.out | refine below_set ?_ GE222.out) | exact HB.out)) hb); have n3_ := Aside0.mk (hbox); have n4_ := Aside0.mk ((by rw [hg]; exact (below_size (by repeat (first | (with_reducible first | exact HB.out | apply below_alloc | apply pw_below_drewN | apply below_drew1 | refine below_set ?_ GE221.out | refine below_set ?_ GE222.out) | exact HB.out))) : w.heap.size ≤ gb235)); have n5_ := Aside0.mk ((by rw [hg]; exact (below_size (by repeat (first | (with_reducible first | exact HB.out | apply below_alloc | apply pw_below_drewN | apply below_drew1 | refine below_set ?_ GE221.out | refine below_set ?_ GE222.out) | exact HB.out))) : w.heap.size ≤ gb235)); have n6_ := Aside0.mk ((by rw [hg]; exact Nat.ne_of_lt (blk_lt (g := gb221) (o := .cells #[.slice (some ad224) l0_0.length c0_0, .slice A0_1 l0_1.length c0_1, .slice A0_2 l0_2.length c0_2] 25 (0, 0)) (by (with_reducible repeat (first | refine blk_drewN ?_ _ | refine blk_drew ?_ | refine blk_alloc ?_ _)); exact BK221.out)) : gb221 ≠ gb235)); have n7_ := Aside0.mk ((by rw [hg]; exact Nat.ne_of_gt (blk_lt (g := gb221) (o := .cells #[.slice (some ad224) l0_0.length c0_0, .slice A0_1 l0_1.length c0_1, .slice A0_2 l0_2.length c0_2] 25 (0, 0)) (by (with_reducible repeat (first | refine blk_drewN ?_ _ | refine blk_drew ?_ | refine blk_alloc ?_ _)); exact BK221.out)) : gb235 ≠ gb221)); have n8_ := Aside0.mk ((by rw [hg]; exact Nat.ne_of_lt (blk_lt (g := gb222) (o := .cells #[.int .i64 a1_0, .int .i64 a1_1] 27 (0, 0)) (by (with_reducible repeat (first | refine blk_drewN ?_ _ | refine blk_drew ?_ | refine blk_alloc ?_ _)); exact BK222.out)) : gb222 ≠ gb235)); have n9_ := Aside0.mk ((by rw [hg]; exact Nat.ne_of_gt (blk_lt (g := gb222) (o := .cells #[.int .i64 a1_0, .int .i64 a1_1] 27 (0, 0)) (by (with_reducible repeat (first | refine blk_drewN ?_ _ | refine blk_drew ?_ | refine blk_alloc ?_ _)); exact BK222.out)) : gb235 ≠ gb222)); clear BK221; clear BK222; clear HB; have BK221 := n0_; have BK222 := n1_; have HB := n2_; have BK235 := n3_; have GW235 := n4_; have GE235 := n5_; have NB221_235 := n6_; have NB235_221 := n7_; have NB222_235 := n8_; have NB235_222 := n9_; clear n0_ n1_ n2_ n3_ n4_ n5_ n6_ n7_ n8_ n9_; clear hb hbox hg) | ((with_reducible refine gate_dst (N := 14) rfl ?_); refine box_event ?hg (N := 14) ?hd (cs := #[.int .i64 0, .int .i64 0, .int .i64 0, .int .i64 0]) (t := 133) ?hr ?_; (case hd => rfl); (case hg => rfl); (case hr => first | (go_simp; done) | (go_simp; rfl)); intro gb236 hg w43 hbox hb; have n0_ := Aside0.mk (blk_below (g := gb221) (o := .cells #[.slice (some ad224) l0_0.length c0_0, .slice A0_1 l0_1.length c0_1, .slice A0_2 l0_2.length c0_2] 25 (0, 0)) (by (with_reducible repeat (first | refine blk_drewN ?_ _ | refine blk_drew ?_ | refine blk_alloc ?_ _)); exact BK221.out) hb); have n1_ := Aside0.mk (blk_below (g := gb222) (o := .cells #[.int .i64 a1_0, .int .i64 a1_1] 27 (0, 0)) (by (with_reducible repeat (first | refine blk_drewN ?_ _ | refine blk_drew ?_ | refine blk_alloc ?_ _)); exact BK222.out) hb); have n2_ := Aside0.mk (blk_below (g := gb235) (o := .cells #[.int .i64 0, .int .i64 0, .int .i64 0, .int .i64 0] 133 (0, 0)) (by (with_reducible repeat (first | refine blk_drewN ?_ _ | refine blk_drew ?_ | refine blk_alloc ?_ _)); exact BK235.out) hb); have n3_ := Aside0.mk (below_step (by repeat (first | (with_reducible first | exact HB.out | apply below_alloc | apply pw_below_drewN | apply below_drew1 | refine below_set ?_ GE221.out | refine below_set ?_ GE222.out | refine below_set ?_ GE235.out) | exact HB.out)) hb); have n4_ := Aside0.mk (hbox); have n5_ := Aside0.mk ((by rw [hg]; exact (below_size (by repeat (first | (with_reducible first | exact HB.out | apply below_alloc | apply pw_below_drewN | apply below_drew1 | refine below_set ?_ GE221.out | refine below_set ?_ GE222.out | refine below_set ?_ GE235.out) | exact HB.out))) : w.heap.size ≤ gb236)); have n6_ := Aside0.mk ((by rw [hg]; exact (below_size (by repeat (first | (with_reducible first | exact HB.out | apply below_alloc | apply pw_below_drewN | apply below_drew1 | refine below_set ?_ GE221.out | refine below_set ?_ GE222.out | refine below_set ?_ GE235.out) | exact HB.out))) : w.heap.size ≤ gb236)); have n7_ := Aside0.mk ((by rw [hg]; exact Nat.ne_of_lt (blk_lt (g := gb221) (o := .cells #[.slice (some ad224) l0_0.length c0_0, .slice A0_1 l0_1.length c0_1, .slice A0_2 l0_2.length c0_2] 25 (0, 0)) (by (with_reducible repeat (first | refine blk_drewN ?_ _ | refine blk_drew ?_ | refine blk_alloc ?_ _)); exact BK221.out)) : gb221 ≠ gb236)); have n8_ := Aside0.mk ((by rw [hg]; exact Nat.ne_of_gt (blk_lt (g := gb221) (o := .cells #[.slice (some ad224) l0_0.length c0_0, .slice A0_1 l0_1.length c0_1, .slice A0_2 l0_2.length c0_2] 25 (0, 0)) (by (with_reducible repeat (first | refine blk_drewN ?_ _ | refine blk_drew ?_ | refine blk_alloc ?_ _)); exact BK221.out)) : gb236 ≠ gb221)); have n9_ := Aside0.mk ((by rw [hg]; exact Nat.ne_of_lt (blk_lt (g := gb222) (o := .cells #[.int .i64 a1_0, .int .i64 a1_1] 27 (0, 0)) (by (with_reducible repeat (first | refine blk_drewN ?_ _ | refine blk_drew ?_ | refine blk_alloc ?_ _)); exact BK222.out)) : gb222 ≠ gb236)); have n10_ := Aside0.mk ((by rw [hg]; exact Nat.ne_of_gt (blk_lt (g := gb222) (o := .cells #[.int .i64 a1_0, .int .i64 a1_1] 27 (0, 0)) (by (with_reducible repeat (first | refine blk_drewN ?_ _ | refine blk_drew ?_ | refine blk_alloc ?_ _)); exact BK222.out)) : gb236 ≠ gb222)); have n11_ := Aside0.mk ((by rw [hg]; exact Nat.ne_of_lt (blk_lt (g := gb235) (o := .cells #[.int .i64 0, .int .i64 0, .int .i64 0, .int .i64 0] 133 (0, 0)) (by (with_reducible repeat (first | refine blk_drewN ?_ _ | refine blk_drew ?_ | refine blk_alloc ?_ _)); exact BK235.out)) : gb235 ≠ gb236)); have n12_ := Aside0.mk ((by rw [hg]; exact Nat.ne_of_gt (blk_lt (g := gb235) (o := .cells #[.int .i64 0, .int .i64 0, .int .i64 0, .int .i64 0] 133 (0, 0)) (by (with_reducible repeat (first | refine blk_drewN ?_ _ | refine blk_drew ?_ | refine blk_alloc ?_ _)); exact BK235.out)) : gb236 ≠ gb235)); clear BK221; clear BK222; clear BK235; clear HB; have BK221 := n0_; have BK222 := n1_; have BK235 := n2_; have HB := n3_; have BK236 := n4_; have GW236 := n5_; have GE236 := n6_; have NB221_236 := n7_; have NB236_221 := n8_; have NB222_236 := n9_; have NB236_222 := n10_; have NB235_236 := n11_; have NB236_235 := n12_; clear n0_ n1_ n2_ n3_ n4_ n5_ n6_ n7_ n8_ n9_ n10_ n11_ n12_; clear hb hbox hg; have hnb44 := NB235_221.out; have hnc44 := NB221_235.out; have hnb45 := NB235_222.out; have hnc45 := NB222_235.out; have hnb46 := NB235_236.out; have hnc46 := NB236_235.out; have hcz47_0 : w43.cell? ⟨gb235, 0, none⟩ = some (.int .i64 0) := (blk_cell BK235.out 0).trans rfl; have hcz47_1 : w43.cell? ⟨gb235, 1, none⟩ = some (.int .i64 0) := (blk_cell BK235.out 1).trans rfl; have hcz47_2 : w43.cell? ⟨gb235, 2, none⟩ = some (.int .i64 0) := (blk_cell BK235.out 2).trans rfl; have hcz47_3 : w43.cell? ⟨gb235, 3, none⟩ = some (.int .i64 0) := (blk_cell BK235.out 3).trans rfl; have hfz47_0 := blk_frozen BK235.out 0; have hfz47_1 := blk_frozen BK235.out 1; have hfz47_2 := blk_frozen BK235.out 2; have hfz47_3 := blk_frozen BK235.out 3; have hnb48 := NB236_221.out; have hnc48 := NB221_236.out; have hnb49 := NB236_222.out; have hnc49 := NB222_236.out; have hcz50_0 : w43.cell? ⟨gb236, 0, none⟩ = some (.int .i64 0) := (blk_cell BK236.out 0).trans rfl; have hcz50_1 : w43.cell? ⟨gb236, 1, none⟩ = some (.int .i64 0) := (blk_cell BK236.out 1).trans rfl; have hcz50_2 : w43.cell? ⟨gb236, 2, none⟩ = some (.int .i64 0) := (blk_cell BK236.out 2).trans rfl; have hcz50_3 : w43.cell? ⟨gb236, 3, none⟩ = some (.int .i64 0) := (blk_cell BK236.out 3).trans rfl; have hfz50_0 := blk_frozen BK236.out 0; have hfz50_1 := blk_frozen BK236.out 1; have hfz50_2 := blk_frozen BK236.out 2; have hfz50_3 := blk_frozen BK236.out 3) | (go_at_call 90; (with_reducible refine (spans_value_up.calls t233 t234 t237 _ A22.out).mono ?_); rintro e w51 ⟨rfl, hb⟩; have n0_ := Aside0.mk (blk_below (g := gb221) (o := .cells #[.slice (some ad224) l0_0.length c0_0, .slice A0_1 l0_1.length c0_1, .slice A0_2 l0_2.length c0_2] 25 (0, 0)) (by (with_reducible repeat (first | refine blk_drewN ?_ _ | refine blk_drew ?_ | refine blk_alloc ?_ _)); refine blk_far ?_ NB221_236.out _; (with_reducible repeat (first | refine blk_drewN ?_ _ | refine blk_drew ?_ | refine blk_alloc ?_ _)); refine blk_far ?_ NB221_236.out _; (with_reducible repeat (first | refine blk_drewN ?_ _ | refine blk_drew ?_ | refine blk_alloc ?_ _)); refine blk_far ?_ NB221_236.out _; (with_reducible repeat (first | refine blk_drewN ?_ _ | refine blk_drew ?_ | refine blk_alloc ?_ _)); refine blk_far ?_ NB221_236.out _; (with_reducible repeat (first | refine blk_drewN ?_ _ | refine blk_drew ?_ | refine blk_alloc ?_ _)); refine blk_far ?_ NB221_235.out _; (with_reducible repeat (first | refine blk_drewN ?_ _ | refine blk_drew ?_ | refine blk_alloc ?_ _)); refine blk_far ?_ NB221_235.out _; (with_reducible repeat (first | refine blk_drewN ?_ _ | refine blk_drew ?_ | refine blk_alloc ?_ _)); refine blk_far ?_ NB221_235.out _; (with_reducible repeat (first | refine blk_drewN ?_ _ | refine blk_drew ?_ | refine blk_alloc ?_ _)); refine blk_far ?_ NB221_235.out _; (with_reducible repeat (first | refine blk_drewN ?_ _ | refine blk_drew ?_ | refine blk_alloc ?_ _)); exact BK221.out) hb); have n1_ := Aside0.mk (blk_below (g := gb222) (o := .cells #[.int .i64 a1_0, .int .i64 a1_1] 27 (0, 0)) (by (with_reducible repeat (first | refine blk_drewN ?_ _ | refine blk_drew ?_ | refine blk_alloc ?_ _)); refine blk_far ?_ NB222_236.out _; (with_reducible repeat (first | refine blk_drewN ?_ _ | refine blk_drew ?_ | refine blk_alloc ?_ _)); refine blk_far ?_ NB222_236.out _; (with_reducible repeat (first | refine blk_drewN ?_ _ | refine blk_drew ?_ | refine blk_alloc ?_ _)); refine blk_far ?_ NB222_236.out _; (with_reducible repeat (first | refine blk_drewN ?_ _ | refine blk_drew ?_ | refine blk_alloc ?_ _)); refine blk_far ?_ NB222_236.out _; (with_reducible repeat (first | refine blk_drewN ?_ _ | refine blk_drew ?_ | refine blk_alloc ?_ _)); refine blk_far ?_ NB222_235.out _; (with_reducible repeat (first | refine blk_drewN ?_ _ | refine blk_drew ?_ | refine blk_alloc ?_ _)); refine blk_far ?_ NB222_235.out _; (with_reducible repeat (first | refine blk_drewN ?_ _ | refine blk_drew ?_ | refine blk_alloc ?_ _)); refine blk_far ?_ NB222_235.out _; (with_reducible repeat (first | refine blk_drewN ?_ _ | refine blk_drew ?_ | refine blk_alloc ?_ _)); refine blk_far ?_ NB222_235.out _; (with_reducible repeat (first | refine blk_drewN ?_ _ | refine blk_drew ?_ | refine blk_alloc ?_ _)); exact BK222.out) hb); have n2_ := Aside0.mk (blk_below (g := gb235) (o := .cells #[.int .i64 t227, .int .i64 t228, .int .i64 t229, .int .i64 t230] 133 (0, 0)) (by (with_reducible repeat (first | refine blk_drewN ?_ _ | refine blk_drew ?_ | refine blk_alloc ?_ _)); refine blk_far ?_ NB235_236.out _; (with_reducible repeat (first | refine blk_drewN ?_ _ | refine blk_drew ?_ | refine blk_alloc ?_ _)); refine blk_far ?_ NB235_236.out _; (with_reducible repeat (first | refine blk_drewN ?_ _ | refine blk_drew ?_ | refine blk_alloc ?_ _)); refine blk_far ?_ NB235_236.out _; (with_reducible repeat (first | refine blk_drewN ?_ _ | refine blk_drew ?_ | refine blk_alloc ?_ _)); refine blk_far ?_ NB235_236.out _; (with_reducible repeat (first | refine blk_drewN ?_ _ | refine blk_drew ?_ | refine blk_alloc ?_ _)); refine blk_put (cs := #[.int .i64 t227, .int .i64 t228, .int .i64 t229, .int .i64 0]) ?_ 3 _ rfl; (with_reducible repeat (first | refine blk_drewN ?_ _ | refine blk_drew ?_ | refine blk_alloc ?_ _)); refine blk_put (cs := #[.int .i64 t227, .int .i64 t228, .int .i64 0, .int .i64 0]) ?_ 2 _ rfl; (with_reducible repeat (first | refine blk_drewN ?_ _ | refine blk_drew ?_ | refine blk_alloc ?_ _)); refine blk_put (cs := #[.int .i64 t227, .int .i64 0, .int .i64 0, .int .i64 0]) ?_ 1 _ rfl; (with_reducible repeat (first | refine blk_drewN ?_ _ | refine blk_drew ?_ | refine blk_alloc ?_ _)); refine blk_put (cs := #[.int .i64 0, .int .i64 0, .int .i64 0, .int .i64 0]) ?_ 0 _ rfl; (with_reducible repeat (first | refine blk_drewN ?_ _ | refine blk_drew ?_ | refine blk_alloc ?_ _)); exact BK235.out) hb); have n3_ := Aside0.mk (blk_below (g := gb236) (o := .cells #[.int .i64 t231, .int .i64 t232, .int .i64 t233, .int .i64 t234] 133 (0, 0)) (by (with_reducible repeat (first | refine blk_drewN ?_ _ | refine blk_drew ?_ | refine blk_alloc ?_ _)); refine blk_put (cs := #[.int .i64 t231, .int .i64 t232, .int .i64 t233, .int .i64 0]) ?_ 3 _ rfl; (with_reducible repeat (first | refine blk_drewN ?_ _ | refine blk_drew ?_ | refine blk_alloc ?_ _)); refine blk_put (cs := #[.int .i64 t231, .int .i64 t232, .int .i64 0, .int .i64 0]) ?_ 2 _ rfl; (with_reducible repeat (first | refine blk_drewN ?_ _ | refine blk_drew ?_ | refine blk_alloc ?_ _)); refine blk_put (cs := #[.int .i64 t231, .int .i64 0, .int .i64 0, .int .i64 0]) ?_ 1 _ rfl; (with_reducible repeat (first | refine blk_drewN ?_ _ | refine blk_drew ?_ | refine blk_alloc ?_ _)); refine blk_put (cs := #[.int .i64 0, .int .i64 0, .int .i64 0, .int .i64 0]) ?_ 0 _ rfl; (with_reducible repeat (first | refine blk_drewN ?_ _ | refine blk_drew ?_ | refine blk_alloc ?_ _)); refine blk_far ?_ NB236_235.out _; (with_reducible repeat (first | refine blk_drewN ?_ _ | refine blk_drew ?_ | refine blk_alloc ?_ _)); refine blk_far ?_ NB236_235.out _; (with_reducible repeat (first | refine blk_drewN ?_ _ | refine blk_drew ?_ | refine blk_alloc ?_ _)); refine blk_far ?_ NB236_235.out _; (with_reducible repeat (first | refine blk_drewN ?_ _ | refine blk_drew ?_ | refine blk_alloc ?_ _)); refine blk_far ?_ NB236_235.out _; (with_reducible repeat (first | refine blk_drewN ?_ _ | refine blk_drew ?_ | refine blk_alloc ?_ _)); exact BK236.out) hb); have n4_ := Aside0.mk (below_step (by repeat (first | (with_reducible first | exact HB.out | apply below_alloc | apply pw_below_drewN | apply below_drew1 | refine below_set ?_ GE221.out | refine below_set ?_ GE222.out | refine below_set ?_ GE235.out | refine below_set ?_ GE236.out) | exact HB.out)) hb); clear BK221; clear BK222; clear BK235; clear BK236; clear HB; have BK221 := n0_; have BK222 := n1_; have BK235 := n2_; have BK236 := n3_; have HB := n4_; clear n0_ n1_ n2_ n3_ n4_; (try clear hb); (try clear hb2); (try clear hk); (try clear hi)))
                    go_roundg k1
                    case measure => have := HK1.out; omega
                    case rel => exact ⟨(wrap64 (x12_1 - 1)), (by first | rfl | (simp; done) | (simp [*]; done)), H', ⟨by have := HK1.out; omega⟩, ⟨by (with_reducible repeat (first | refine blk_drewN ?_ _ | refine blk_drew ?_ | refine blk_alloc ?_ _)); exact BK221.out⟩, ⟨by (with_reducible repeat (first | refine blk_drewN ?_ _ | refine blk_drew ?_ | refine blk_alloc ?_ _)); exact BK222.out⟩, ⟨by repeat (first | (with_reducible first | exact HB.out | apply below_alloc | apply pw_below_drewN | apply below_drew1 | refine below_set ?_ GE221.out | refine below_set ?_ GE222.out | refine below_set ?_ GE235.out | refine below_set ?_ GE236.out) | exact HB.out)⟩⟩
                · rw [if_neg c20] at H
                  have c20b0 : decide ((rd l0_0 0) ≤ x12_1) = false := decide_eq_false c20
                  clear c20
                  simp only [Option.some.injEq, Prod.mk.injEq] at H
                  obtain ⟨rfl, rfl⟩ := H
                  go_wp2
                  go_ret2
                  exact ⟨by first | rfl | (simp [errW_none, errW_some] <;> rfl) | (simp only [← hji7]; first | rfl | (simp [errW_none, errW_some] <;> rfl)) | (simp [*, errW_none, errW_some] <;> rfl), by repeat (first | (with_reducible first | exact HB.out | apply below_alloc | apply pw_below_drewN | apply below_drew1 | refine below_set ?_ GE221.out | refine below_set ?_ GE222.out) | exact HB.out)⟩
          · rw [if_neg c11] at H
            have c11b0 : (t226 == 0) = false := beq_eq_false_iff_ne.mpr c11
            have c11b1 : (t226 != 0) = true := bne_iff_ne.mpr c11
            simp only [Option.some.injEq, Prod.mk.injEq] at H
            obtain ⟨rfl, rfl⟩ := H
            go_enter Try.func23, Try.ntmps23
            go_wp2_with (first | ((with_reducible refine gate_dst (N := 3) rfl ?_); refine box_event ?hg (N := 3) ?hd (cs := #[.slice A0_0 l0_0.length c0_0, .slice A0_1 l0_1.length c0_1, .slice A0_2 l0_2.length c0_2]) (t := 25) ?hr ?_; (case hd => rfl); (case hg => rfl); (case hr => first | (go_simp; done) | (go_simp; rfl)); intro gb221 hg w52 hbox hb; have n0_ := Aside0.mk (below_step (by repeat (first | (with_reducible first | exact HB.out | apply below_alloc | apply pw_below_drewN | apply below_drew1) | exact HB.out)) hb); have n1_ := Aside0.mk (hbox); have n2_ := Aside0.mk ((by rw [hg]; exact (below_size (by repeat (first | (with_reducible first | exact HB.out | apply below_alloc | apply pw_below_drewN | apply below_drew1) | exact HB.out))) : w.heap.size ≤ gb221)); have n3_ := Aside0.mk ((by rw [hg]; exact (below_size (by repeat (first | (with_reducible first | exact HB.out | apply below_alloc | apply pw_below_drewN | apply below_drew1) | exact HB.out))) : w.heap.size ≤ gb221)); clear HB; have HB := n0_; have BK221 := n1_; have GW221 := n2_; have GE221 := n3_; clear n0_ n1_ n2_ n3_; clear hb hbox hg) | ((with_reducible refine gate_dst (N := 4) rfl ?_); refine box_event ?hg (N := 4) ?hd (cs := #[.int .i64 a1_0, .int .i64 a1_1]) (t := 27) ?hr ?_; (case hd => rfl); (case hg => rfl); (case hr => first | (go_simp; done) | (go_simp; rfl)); intro gb222 hg w53 hbox hb; have n0_ := Aside0.mk (blk_below (g := gb221) (o := .cells #[.slice A0_0 l0_0.length c0_0, .slice A0_1 l0_1.length c0_1, .slice A0_2 l0_2.length c0_2] 25 (0, 0)) (by (with_reducible repeat (first | refine blk_drewN ?_ _ | refine blk_drew ?_ | refine blk_alloc ?_ _)); exact BK221.out) hb); have n1_ := Aside0.mk (below_step (by repeat (first | (with_reducible first | exact HB.out | apply below_alloc | apply pw_below_drewN | apply below_drew1 | refine below_set ?_ GE221.out) | exact HB.out)) hb); have n2_ := Aside0.mk (hbox); have n3_ := Aside0.mk ((by rw [hg]; exact (below_size (by repeat (first | (with_reducible first | exact HB.out | apply below_alloc | apply pw_below_drewN | apply below_drew1 | refine below_set ?_ GE221.out) | exact HB.out))) : w.heap.size ≤ gb222)); have n4_ := Aside0.mk ((by rw [hg]; exact (below_size (by repeat (first | (with_reducible first | exact HB.out | apply below_alloc | apply pw_below_drewN | apply below_drew1 | refine below_set ?_ GE221.out) | exact HB.out))) : w.heap.size ≤ gb222)); have n5_ := Aside0.mk ((by rw [hg]; exact Nat.ne_of_lt (blk_lt (g := gb221) (o := .cells #[.slice A0_0 l0_0.length c0_0, .slice A0_1 l0_1.length c0_1, .slice A0_2 l0_2.length c0_2] 25 (0, 0)) (by (with_reducible repeat (first | refine blk_drewN ?_ _ | refine blk_drew ?_ | refine blk_alloc ?_ _)); exact BK221.out)) : gb221 ≠ gb222)); have n6_ := Aside0.mk ((by rw [hg]; exact Nat.ne_of_gt (blk_lt (g := gb221) (o := .cells #[.slice A0_0 l0_0.length c0_0, .slice A0_1 l0_1.length c0_1, .slice A0_2 l0_2.length c0_2] 25 (0, 0)) (by (with_reducible repeat (first | refine blk_drewN ?_ _ | refine blk_drew ?_ | refine blk_alloc ?_ _)); exact BK221.out)) : gb222 ≠ gb221)); clear BK221; clear HB; have BK221 := n0_; have HB := n1_; have BK222 := n2_; have GW222 := n3_; have GE222 := n4_; have NB221_222 := n5_; have NB222_221 := n6_; clear n0_ n1_ n2_ n3_ n4_ n5_ n6_; clear hb hbox hg; have hnb54 := NB221_222.out; have hnc54 := NB222_221.out; have hcz55_0 : w53.cell? ⟨gb221, 0, none⟩ = some (.slice A0_0 l0_0.length c0_0) := (blk_cell BK221.out 0).trans rfl; have hcz55_1 : w53.cell? ⟨gb221, 1, none⟩ = some (.slice A0_1 l0_1.length c0_1) := (blk_cell BK221.out 1).trans rfl; have hcz55_2 : w53.cell? ⟨gb221, 2, none⟩ = some (.slice A0_2 l0_2.length c0_2) := (blk_cell BK221.out 2).trans rfl; have hfz55_0 := blk_frozen BK221.out 0; have hfz55_1 := blk_frozen BK221.out 1; have hfz55_2 := blk_frozen BK221.out 2) | (go_at_call 29; (with_reducible refine (spans_CheckTable.calls _ _ l0_0 _ _ l0_1 _ _ l0_2 t223 _ ?side1 ?side2 ?side3 ?side4 ?side5 ?side6 A4.out).mono ?_); (case side1 => repeat (first | exact (Kd.C_below HR0_0.out HB.out) | (with_reducible refine Kd.C_alloc ?_ _) | (with_reducible refine Kd.C_drewN ?_ _) | (with_reducible refine Kd.C_drew ?_))); (case side2 => exact HC0_0.out); (case side3 => repeat (first | exact (Kd.C_below HR0_1.out HB.out) | (with_reducible refine Kd.C_alloc ?_ _) | (with_reducible refine Kd.C_drewN ?_ _) | (with_reducible refine Kd.C_drew ?_))); (case side4 => exact HC0_1.out); (case side5 => repeat (first | exact (Kd.C_below HR0_2.out HB.out) | (with_reducible refine Kd.C_alloc ?_ _) | (with_reducible refine Kd.C_drewN ?_ _) | (with_reducible refine Kd.C_drew ?_))); (case side6 => exact HC0_2.out); rintro e w56 ⟨rfl, hb⟩; have n0_ := Aside0.mk (blk_below (g := gb221) (o := .cells #[.slice A0_0 l0_0.length c0_0, .slice A0_1 l0_1.length c0_1, .slice A0_2 l0_2.length c0_2] 25 (0, 0)) (by (with_reducible repeat (first | refine blk_drewN ?_ _ | refine blk_drew ?_ | refine blk_alloc ?_ _)); exact BK221.out) hb); have n1_ := Aside0.mk (blk_below (g := gb222) (o := .cells #[.int .i64 a1_0, .int .i64 a1_1] 27 (0, 0)) (by (with_reducible repeat (first | refine blk_drewN ?_ _ | refine blk_drew ?_ | refine blk_alloc ?_ _)); exact BK222.out) hb); have n2_ := Aside0.mk (below_step (by repeat (first | (with_reducible first | exact HB.out | apply below_alloc | apply pw_below_drewN | apply below_drew1 | refine below_set ?_ GE221.out | refine below_set ?_ GE222.out) | exact HB.out)) hb); clear BK221; clear BK222; clear HB; have BK221 := n0_; have BK222 := n1_; have HB := n2_; clear n0_ n1_ n2_; (try clear hb); (try clear hb2); (try clear hk); (try clear hi); have hcz57_0 : w56.cell? ⟨gb221, 0, none⟩ = some (.slice A0_0 l0_0.length c0_0) := (blk_cell BK221.out 0).trans rfl; have hcz57_1 : w56.cell? ⟨gb221, 1, none⟩ = some (.slice A0_1 l0_1.length c0_1) := (blk_cell BK221.out 1).trans rfl; have hcz57_2 : w56.cell? ⟨gb221, 2, none⟩ = some (.slice A0_2 l0_2.length c0_2) := (blk_cell BK221.out 2).trans rfl; have hfz57_0 := blk_frozen BK221.out 0; have hfz57_1 := blk_frozen BK221.out 1; have hfz57_2 := blk_frozen BK221.out 2; have p224 : 0 ≤ (0 : Int) := (by omega); have q224 : 0 < (l0_0.length : Int) := of_decide_eq_true (by first | (with_reducible assumption) | assumption); obtain ⟨ad224, e224, hx224_0⟩ := Kd.at_int HR0_0.out 0 p224 q224; cases e224; have qi224 : (0 < l0_0.length) = True := eq_true (by omega); (try rw [show ((0 : Int)).toNat = 0 from rfl] at hx224_0); (try rw [Addr.add_zero'] at hx224_0); replace hx224_0 := (HB.out.cell (World.block_lt_of_cell? w _ hx224_0)).trans hx224_0; replace p224 := eq_true p224; replace q224 := eq_true q224; have p225 : 0 ≤ ((ji7) : Int) := of_decide_eq_true (by first | (with_reducible assumption) | assumption); have q225 : (ji7) < (l0_0.length : Int) := of_decide_eq_true (by first | (with_reducible assumption) | assumption); obtain ⟨ad225, e225, hx225_0⟩ := Kd.at_int HR0_0.out (ji7) p225 q225; obtain rfl : ad224 = ad225 := (by injection e225); replace hx225_0 := (HB.out.cell (World.block_lt_of_cell? w _ hx225_0)).trans hx225_0; replace p225 := eq_true p225; replace q225 := eq_true q225; have hcz58_0 : w56.cell? ⟨gb222, 0, none⟩ = some (.int .i64 a1_0) := (blk_cell BK222.out 0).trans rfl; have hcz58_1 : w56.cell? ⟨gb222, 1, none⟩ = some (.int .i64 a1_1) := (blk_cell BK222.out 1).trans rfl; have hfz58_0 := blk_frozen BK222.out 0; have hfz58_1 := blk_frozen BK222.out 1) | (go_at_call 88; (with_reducible refine (spans_checkPoints.calls _ _ l0_0 _ _ l0_1 _ _ l0_2 (rd l0_0 0) (rd l0_0 0) a1_0 a1_1 t226 _ ?side1 ?side2 ?side3 ?side4 ?side5 ?side6 A10.out).mono ?_); (case side1 => repeat (first | exact (Kd.C_below HR0_0.out HB.out) | (with_reducible refine Kd.C_alloc ?_ _) | (with_reducible refine Kd.C_drewN ?_ _) | (with_reducible refine Kd.C_drew ?_))); (case side2 => exact HC0_0.out); (case side3 => repeat (first | exact (Kd.C_below HR0_1.out HB.out) | (with_reducible refine Kd.C_alloc ?_ _) | (with_reducible refine Kd.C_drewN ?_ _) | (with_reducible refine Kd.C_drew ?_))); (case side4 => exact HC0_1.out); (case side5 => repeat (first | exact (Kd.C_below HR0_2.out HB.out) | (with_reducible refine Kd.C_alloc ?_ _) | (with_reducible refine Kd.C_drewN ?_ _) | (with_reducible refine Kd.C_drew ?_))); (case side6 => exact HC0_2.out); rintro e w59 ⟨rfl, hb⟩; have n0_ := Aside0.mk (blk_below (g := gb221) (o := .cells #[.slice (some ad224) l0_0.length c0_0, .slice A0_1 l0_1.length c0_1, .slice A0_2 l0_2.length c0_2] 25 (0, 0)) (by (with_reducible repeat (first | refine blk_drewN ?_ _ | refine blk_drew ?_ | refine blk_alloc ?_ _)); exact BK221.out) hb); have n1_ := Aside0.mk (blk_below (g := gb222) (o := .cells #[.int .i64 a1_0, .int .i64 a1_1] 27 (0, 0)) (by (with_reducible repeat (first | refine blk_drewN ?_ _ | refine blk_drew ?_ | refine blk_alloc ?_ _)); exact BK222.out) hb); have n2_ := Aside0.mk (below_step (by repeat (first | (with_reducible first | exact HB.out | apply below_alloc | apply pw_below_drewN | apply below_drew1 | refine below_set ?_ GE221.out | refine below_set ?_ GE222.out) | exact HB.out)) hb); clear BK221; clear BK222; clear HB; have BK221 := n0_; have BK222 := n1_; have HB := n2_; clear n0_ n1_ n2_; (try clear hb); (try clear hb2); (try clear hk); (try clear hi)))
            repeat (go_quiet (first | ((with_reducible refine gate_dst (N := 3) rfl ?_); refine box_event ?hg (N := 3) ?hd (cs := #[.slice A0_0 l0_0.length c0_0, .slice A0_1 l0_1.length c0_1, .slice A0_2 l0_2.length c0_2]) (t := 25) ?hr ?_; (case hd => rfl); (case hg => rfl); (case hr => first | (go_simp; done) | (go_simp; rfl)); intro gb221 hg w52 hbox hb; have n0_ := Aside0.mk (below_step (by repeat (first | (with_reducible first | exact HB.out | apply below_alloc | apply pw_below_drewN | apply below_drew1) | exact HB.out)) hb); have n1_ := Aside0.mk (hbox); have n2_ := Aside0.mk ((by rw [hg]; exact (below_size (by repeat (first | (with_reducible first | exact HB.out | apply below_alloc | apply pw_below_drewN | apply below_drew1) | exact HB.out))) : w.heap.size ≤ gb221)); have n3_ := Aside0.mk ((by rw [hg]; exact (below_size (by repeat (first | (with_reducible first | exact HB.out | apply below_alloc | apply pw_below_drewN | apply below_drew1) | exact HB.out))) : w.heap.size ≤ gb221)); clear HB; have HB := n0_; have BK221 := n1_; have GW221 := n2_; have GE221 := n3_; clear n0_ n1_ n2_ n3_; clear hb hbox hg) | ((with_reducible refine gate_dst (N := 4) rfl ?_); refine box_event ?hg (N := 4) ?hd (cs := #[.int .i64 a1_0, .int .i64 a1_1]) (t := 27) ?hr ?_; (case hd => rfl); (case hg => rfl); (case hr => first | (go_simp; done) | (go_simp; rfl)); intro gb222 hg w53 hbox hb; have n0_ := Aside0.mk (blk_below (g := gb221) (o := .cells #[.slice A0_0 l0_0.length c0_0, .slice A0_1 l0_1.length c0_1, .slice A0_2 l0_2.length c0_2] 25 (0, 0)) (by (with_reducible repeat (first | refine blk_drewN ?_ _ | refine blk_drew ?_ | refine blk_alloc ?_ _)); exact BK221.out) hb); have n1_ := Aside0.mk (below_step (by repeat (first | (with_reducible first | exact HB.out | apply below_alloc | apply pw_below_drewN | apply below_drew1 | refine below_set ?_ GE221.out) | exact HB.out)) hb); have n2_ := Aside0.mk (hbox); have n3_ := Aside0.mk ((by rw [hg]; exact (below_size (by repeat (first | (with_reducible first | exact HB.out | apply below_alloc | apply pw_below_drewN | apply below_drew1 | refine below_set ?_ GE221.out) | exact HB.out))) : w.heap.size ≤ gb222)); have n4_ := Aside0.mk ((by rw [hg]; exact (below_size (by repeat (first | (with_reducible first | exact HB.out | apply below_alloc | apply pw_below_drewN | apply below_drew1 | refine below_set ?_ GE221.out) | exact HB.out))) : w.heap.size ≤ gb222)); have n5_ := Aside0.mk ((by rw [hg]; exact Nat.ne_of_lt (blk_lt (g := gb221) (o := .cells #[.slice A0_0 l0_0.length c0_0, .slice A0_1 l0_1.length c0_1, .slice A0_2 l0_2.length c0_2] 25 (0, 0)) (by (with_reducible repeat (first | refine blk_drewN ?_ _ | refine blk_drew ?_ | refine blk_alloc ?_ _)); exact BK221.out)) : gb221 ≠ gb222)); have n6_ := Aside0.mk ((by rw [hg]; exact Nat.ne_of_gt (blk_lt (g := gb221) (o := .cells #[.slice A0_0 l0_0.length c0_0, .slice A0_1 l0_1.length c0_1, .slice A0_2 l0_2.length c0_2] 25 (0, 0)) (by (with_reducible repeat (first | refine blk_drewN ?_ _ | refine blk_drew ?_ | refine blk_alloc ?_ _)); exact BK221.out)) : gb222 ≠ gb221)); clear BK221; clear HB; have BK221 := n0_; have HB := n1_; have BK222 := n2_; have GW222 := n3_; have GE222 := n4_; have NB221_222 := n5_; have NB222_221 := n6_; clear n0_ n1_ n2_ n3_ n4_ n5_ n6_; clear hb hbox hg; have hnb54 := NB221_222.out; have hnc54 := NB222_221.out; have hcz55_0 : w53.cell? ⟨gb221, 0, none⟩ = some (.slice A0_0 l0_0.length c0_0) := (blk_cell BK221.out 0).trans rfl; have hcz55_1 : w53.cell? ⟨gb221, 1, none⟩ = some (.slice A0_1 l0_1.length c0_1) := (blk_cell BK221.out 1).trans rfl; have hcz55_2 : w53.cell? ⟨gb221, 2, none⟩ = some (.slice A0_2 l0_2.length c0_2) := (blk_cell BK221.out 2).trans rfl; have hfz55_0 := blk_frozen BK221.out 0; have hfz55_1 := blk_frozen BK221.out 1; have hfz55_2 := blk_frozen BK221.out 2) | (go_at_call 29; (with_reducible refine (spans_CheckTable.calls _ _ l0_0 _ _ l0_1 _ _ l0_2 t223 _ ?side1 ?side2 ?side3 ?side4 ?side5 ?side6 A4.out).mono ?_); (case side1 => repeat (first | exact (Kd.C_below HR0_0.out HB.out) | (with_reducible refine Kd.C_alloc ?_ _) | (with_reducible refine Kd.C_drewN ?_ _) | (with_reducible refine Kd.C_drew ?_))); (case side2 => exact HC0_0.out); (case side3 => repeat (first | exact (Kd.C_below HR0_1.out HB.out) | (with_reducible refine Kd.C_alloc ?_ _) | (with_reducible refine Kd.C_drewN ?_ _) | (with_reducible refine Kd.C_drew ?_))); (case side4 => exact HC0_1.out); (case side5 => repeat (first | exact (Kd.C_below HR0_2.out HB.out) | (with_reducible refine Kd.C_alloc ?_ _) | (with_reducible refine Kd.C_drewN ?_ _) | (with_reducible refine Kd.C_drew ?_))); (case side6 => exact HC0_2.out); rintro e w56 ⟨rfl, hb⟩; have n0_ := Aside0.mk (blk_below (g := gb221) (o := .cells #[.slice A0_0 l0_0.length c0_0, .slice A0_1 l0_1.length c0_1, .slice A0_2 l0_2.length c0_2] 25 (0, 0)) (by (with_reducible repeat (first | refine blk_drewN ?_ _ | refine blk_drew ?_ | refine blk_alloc ?_ _)); exact BK221.out) hb); have n1_ := Aside0.mk (blk_below (g := gb222) (o := .cells #[.int .i64 a1_0, .int .i64 a1_1] 27 (0, 0)) (by (with_reducible repeat (first | refine blk_drewN ?_ _ | refine blk_drew ?_ | refine blk_alloc ?_ _)); exact BK222.out) hb); have n2_ := Aside0.mk (below_step (by repeat (first | (with_reducible first | exact HB.out | apply below_alloc | apply pw_below_drewN | apply below_drew1 | refine below_set ?_ GE221.out | refine below_set ?_ GE222.out) | exact HB.out)) hb); clear BK221; clear BK222; clear HB; have BK221 := n0_; have BK222 := n1_; have HB := n2_; clear n0_ n1_ n2_; (try clear hb); (try clear hb2); (try clear hk); (try clear hi); have hcz57_0 : w56.cell? ⟨gb221, 0, none⟩ = some (.slice A0_0 l0_0.length c0_0) := (blk_cell BK221.out 0).trans rfl; have hcz57_1 : w56.cell? ⟨gb221, 1, none⟩ = some (.slice A0_1 l0_1.length c0_1) := (blk_cell BK221.out 1).trans rfl; have hcz57_2 : w56.cell? ⟨gb221, 2, none⟩ = some (.slice A0_2 l0_2.length c0_2) := (blk_cell BK221.out 2).trans rfl; have hfz57_0 := blk_frozen BK221.out 0; have hfz57_1 := blk_frozen BK221.out 1; have hfz57_2 := blk_frozen BK221.out 2; have p224 : 0 ≤ (0 : Int) := (by omega); have q224 : 0 < (l0_0.length : Int) := of_decide_eq_true (by first | (with_reducible assumption) | assumption); obtain ⟨ad224, e224, hx224_0⟩ := Kd.at_int HR0_0.out 0 p224 q224; cases e224; have qi224 : (0 < l0_0.length) = True := eq_true (by omega); (try rw [show ((0 : Int)).toNat = 0 from rfl] at hx224_0); (try rw [Addr.add_zero'] at hx224_0); replace hx224_0 := (HB.out.cell (World.block_lt_of_cell? w _ hx224_0)).trans hx224_0; replace p224 := eq_true p224; replace q224 := eq_true q224; have p225 : 0 ≤ ((ji7) : Int) := of_decide_eq_true (by first | (with_reducible assumption) | assumption); have q225 : (ji7) < (l0_0.length : Int) := of_decide_eq_true (by first | (with_reducible assumption) | assumption); obtain ⟨ad225, e225, hx225_0⟩ := Kd.at_int HR0_0.out (ji7) p225 q225; obtain rfl : ad224 = ad225 := (by injection e225); replace hx225_0 := (HB.out.cell (World.block_lt_of_cell? w _ hx225_0)).trans hx225_0; replace p225 := eq_true p225; replace q225 := eq_true q225; have hcz58_0 : w56.cell? ⟨gb222, 0, none⟩ = some (.int .i64 a1_0) := (blk_cell BK222.out 0).trans rfl; have hcz58_1 : w56.cell? ⟨gb222, 1, none⟩ = some (.int .i64 a1_1) := (blk_cell BK222.out 1).trans rfl; have hfz58_0 := blk_frozen BK222.out 0; have hfz58_1 := blk_frozen BK222.out 1) | (go_at_call 88; (with_reducible refine (spans_checkPoints.calls _ _ l0_0 _ _ l0_1 _ _ l0_2 (rd l0_0 0) (rd l0_0 0) a1_0 a1_1 t226 _ ?side1 ?side2 ?side3 ?side4 ?side5 ?side6 A10.out).mono ?_); (case side1 => repeat (first | exact (Kd.C_below HR0_0.out HB.out) | (with_reducible refine Kd.C_alloc ?_ _) | (with_reducible refine Kd.C_drewN ?_ _) | (with_reducible refine Kd.C_drew ?_))); (case side2 => exact HC0_0.out); (case side3 => repeat (first | exact (Kd.C_below HR0_1.out HB.out) | (with_reducible refine Kd.C_alloc ?_ _) | (with_reducible refine Kd.C_drewN ?_ _) | (with_reducible refine Kd.C_drew ?_))); (case side4 => exact HC0_1.out); (case side5 => repeat (first | exact (Kd.C_below HR0_2.out HB.out) | (with_reducible refine Kd.C_alloc ?_ _) | (with_reducible refine Kd.C_drewN ?_ _) | (with_reducible refine Kd.C_drew ?_))); (case side6 => exact HC0_2.out); rintro e w59 ⟨rfl, hb⟩; have n0_ := Aside0.mk (blk_below (g := gb221) (o := .cells #[.slice (some ad224) l0_0.length c0_0, .slice A0_1 l0_1.length c0_1, .slice A0_2 l0_2.length c0_2] 25 (0, 0)) (by (with_reducible repeat (first | refine blk_drewN ?_ _ | refine blk_drew ?_ | refine blk_alloc ?_ _)); exact BK221.out) hb); have n1_ := Aside0.mk (blk_below (g := gb222) (o := .cells #[.int .i64 a1_0, .int .i64 a1_1] 27 (0, 0)) (by (with_reducible repeat (first | refine blk_drewN ?_ _ | refine blk_drew ?_ | refine blk_alloc ?_ _)); exact BK222.out) hb); have n2_ := Aside0.mk (below_step (by repeat (first | (with_reducible first | exact HB.out | apply below_alloc | apply pw_below_drewN | apply below_drew1 | refine below_set ?_ GE221.out | refine below_set ?_ GE222.out) | exact HB.out)) hb); clear BK221; clear BK222; clear HB; have BK221 := n0_; have BK222 := n1_; have HB := n2_; clear n0_ n1_ n2_; (try clear hb); (try clear hb2); (try clear hk); (try clear hi))); try go_wp2_with (first | ((with_reducible refine gate_dst (N := 3) rfl ?_); refine box_event ?hg (N := 3) ?hd (cs := #[.slice A0_0 l0_0.length c0_0, .slice A0_1 l0_1.length c0_1, .slice A0_2 l0_2.length c0_2]) (t := 25) ?hr ?_; (case hd => rfl); (case hg => rfl); (case hr => first | (go_simp; done) | (go_simp; rfl)); intro gb221 hg w52 hbox hb; have n0_ := Aside0.mk (below_step (by repeat (first | (with_reducible first | exact HB.out | apply below_alloc | apply pw_below_drewN | apply below_drew1) | exact HB.out)) hb); have n1_ := Aside0.mk (hbox); have n2_ := Aside0.mk ((by rw [hg]; exact (below_size (by repeat (first | (with_reducible first | exact HB.out | apply below_alloc | apply pw_below_drewN | apply below_drew1) | exact HB.out))) : w.heap.size ≤ gb221)); have n3_ := Aside0.mk ((by rw [hg]; exact (below_size (by repeat (first | (with_reducible first | exact HB.out | apply below_alloc | apply pw_below_drewN | apply below_drew1) | exact HB.out))) : w.heap.size ≤ gb221)); clear HB; have HB := n0_; have BK221 := n1_; have GW221 := n2_; have GE221 := n3_; clear n0_ n1_ n2_ n3_; clear hb hbox hg) | ((with_reducible refine gate_dst (N := 4) rfl ?_); refine box_event ?hg (N := 4) ?hd (cs := #[.int .i64 a1_0, .int .i64 a1_1]) (t := 27) ?hr ?_; (case hd => rfl); (case hg => rfl); (case hr => first | (go_simp; done) | (go_simp; rfl)); intro gb222 hg w53 hbox hb; have n0_ := Aside0.mk (blk_below (g := gb221) (o := .cells #[.slice A0_0 l0_0.length c0_0, .slice A0_1 l0_1.length c0_1, .slice A0_2 l0_2.length c0_2] 25 (0, 0)) (by (with_reducible repeat (first | refine blk_drewN ?_ _ | refine blk_drew ?_ | refine blk_alloc ?_ _)); exact BK221.out) hb); have n1_ := Aside0.mk (below_step (by repeat (first | (with_reducible first | exact HB.out | apply below_alloc | apply pw_below_drewN | apply below_drew1 | refine below_set ?_ GE221.out) | exact HB.out)) hb); have n2_ := Aside0.mk (hbox); have n3_ := Aside0.mk ((by rw [hg]; exact (below_size (by repeat (first | (with_reducible first | exact HB.out | apply below_alloc | apply pw_below_drewN | apply below_drew1 | refine below_set ?_ GE221.out) | exact HB.out))) : w.heap.size ≤ gb222)); have n4_ := Aside0.mk ((by rw [hg]; exact (below_size (by repeat (first | (with_reducible first | exact HB.out | apply below_alloc | apply pw_below_drewN | apply below_drew1 | refine below_set ?_ GE221.out) | exact HB.out))) : w.heap.size ≤ gb222)); have n5_ := Aside0.mk ((by rw [hg]; exact Nat.ne_of_lt (blk_lt (g := gb221) (o := .cells #[.slice A0_0 l0_0.length c0_0, .slice A0_1 l0_1.length c0_1, .slice A0_2 l0_2.length c0_2] 25 (0, 0)) (by (with_reducible repeat (first | refine blk_drewN ?_ _ | refine blk_drew ?_ | refine blk_alloc ?_ _)); exact BK221.out)) : gb221 ≠ gb222)); have n6_ := Aside0.mk ((by rw [hg]; exact Nat.ne_of_gt (blk_lt (g := gb221) (o := .cells #[.slice A0_0 l0_0.length c0_0, .slice A0_1 l0_1.length c0_1, .slice A0_2 l0_2.length c0_2] 25 (0, 0)) (by (with_reducible repeat (first | refine blk_drewN ?_ _ | refine blk_drew ?_ | refine blk_alloc ?_ _)); exact BK221.out)) : gb222 ≠ gb221)); clear BK221; clear HB; have BK221 := n0_; have HB := n1_; have BK222 := n2_; have GW222 := n3_; have GE222 := n4_; have NB221_222 := n5_; have NB222_221 := n6_; clear n0_ n1_ n2_ n3_ n4_ n5_ n6_; clear hb hbox hg; have hnb54 := NB221_222.out; have hnc54 := NB222_221.out; have hcz55_0 : w53.cell? ⟨gb221, 0, none⟩ = some (.slice A0_0 l0_0.length c0_0) := (blk_cell BK221.out 0).trans rfl; have hcz55_1 : w53.cell? ⟨gb221, 1, none⟩ = some (.slice A0_1 l0_1.length c0_1) := (blk_cell BK221.out 1).trans rfl; have hcz55_2 : w53.cell? ⟨gb221, 2, none⟩ = some (.slice A0_2 l0_2.length c0_2) := (blk_cell BK221.out 2).trans rfl; have hfz55_0 := blk_frozen BK221.out 0; have hfz55_1 := blk_frozen BK221.out 1; have hfz55_2 := blk_frozen BK221.out 2) | (go_at_call 29; (with_reducible refine (spans_CheckTable.calls _ _ l0_0 _ _ l0_1 _ _ l0_2 t223 _ ?side1 ?side2 ?side3 ?side4 ?side5 ?side6 A4.out).mono ?_); (case side1 => repeat (first | exact (Kd.C_below HR0_0.out HB.out) | (with_reducible refine Kd.C_alloc ?_ _) | (with_reducible refine Kd.C_drewN ?_ _) | (with_reducible refine Kd.C_drew ?_))); (case side2 => exact HC0_0.out); (case side3 => repeat (first | exact (Kd.C_below HR0_1.out HB.out) | (with_reducible refine Kd.C_alloc ?_ _) | (with_reducible refine Kd.C_drewN ?_ _) | (with_reducible refine Kd.C_drew ?_))); (case side4 => exact HC0_1.out); (case side5 => repeat (first | exact (Kd.C_below HR0_2.out HB.out) | (with_reducible refine Kd.C_alloc ?_ _) | (with_reducible refine Kd.C_drewN ?_ _) | (with_reducible refine Kd.C_drew ?_))); (case side6 => exact HC0_2.out); rintro e w56 ⟨rfl, hb⟩; have n0_ := Aside0.mk (blk_below (g := gb221) (o := .cells #[.slice A0_0 l0_0.length c0_0, .slice A0_1 l0_1.length c0_1, .slice A0_2 l0_2.length c0_2] 25 (0, 0)) (by (with_reducible repeat (first | refine blk_drewN ?_ _ | refine blk_drew ?_ | refine blk_alloc ?_ _)); exact BK221.out) hb); have n1_ := Aside0.mk (blk_below (g := gb222) (o := .cells #[.int .i64 a1_0, .int .i64 a1_1] 27 (0, 0)) (by (with_reducible repeat (first | refine blk_drewN ?_ _ | refine blk_drew ?_ | refine blk_alloc ?_ _)); exact BK222.out) hb); have n2_ := Aside0.mk (below_step (by repeat (first | (with_reducible first | exact HB.out | apply below_alloc | apply pw_below_drewN | apply below_drew1 | refine below_set ?_ GE221.out | refine below_set ?_ GE222.out) | exact HB.out)) hb); clear BK221; clear BK222; clear HB; have BK221 := n0_; have BK222 := n1_; have HB := n2_; clear n0_ n1_ n2_; (try clear hb); (try clear hb2); (try clear hk); (try clear hi); have hcz57_0 : w56.cell? ⟨gb221, 0, none⟩ = some (.slice A0_0 l0_0.length c0_0) := (blk_cell BK221.out 0).trans rfl; have hcz57_1 : w56.cell? ⟨gb221, 1, none⟩ = some (.slice A0_1 l0_1.length c0_1) := (blk_cell BK221.out 1).trans rfl; have hcz57_2 : w56.cell? ⟨gb221, 2, none⟩ = some (.slice A0_2 l0_2.length c0_2) := (blk_cell BK221.out 2).trans rfl; have hfz57_0 := blk_frozen BK221.out 0; have hfz57_1 := blk_frozen BK221.out 1; have hfz57_2 := blk_frozen BK221.out 2; have p224 : 0 ≤ (0 : Int) := (by omega); have q224 : 0 < (l0_0.length : Int) := of_decide_eq_true (by first | (with_reducible assumption) | assumption); obtain ⟨ad224, e224, hx224_0⟩ := Kd.at_int HR0_0.out 0 p224 q224; cases e224; have qi224 : (0 < l0_0.length) = True := eq_true (by omega); (try rw [show ((0 : Int)).toNat = 0 from rfl] at hx224_0); (try rw [Addr.add_zero'] at hx224_0); replace hx224_0 := (HB.out.cell (World.block_lt_of_cell? w _ hx224_0)).trans hx224_0; replace p224 := eq_true p224; replace q224 := eq_true q224; have p225 : 0 ≤ ((ji7) : Int) := of_decide_eq_true (by first | (with_reducible assumption) | assumption); have q225 : (ji7) < (l0_0.length : Int) := of_decide_eq_true (by first | (with_reducible assumption) | assumption); obtain ⟨ad225, e225, hx225_0⟩ := Kd.at_int HR0_0.out (ji7) p225 q225; obtain rfl : ad224 = ad225 := (by injection e225); replace hx225_0 := (HB.out.cell (World.block_lt_of_cell? w _ hx225_0)).trans hx225_0; replace p225 := eq_true p225; replace q225 := eq_true q225; have hcz58_0 : w56.cell? ⟨gb222, 0, none⟩ = some (.int .i64 a1_0) := (blk_cell BK222.out 0).trans rfl; have hcz58_1 : w56.cell? ⟨gb222, 1, none⟩ = some (.int .i64 a1_1) := (blk_cell BK222.out 1).trans rfl; have hfz58_0 := blk_frozen BK222.out 0; have hfz58_1 := blk_frozen BK222.out 1) | (go_at_call 88; (with_reducible refine (spans_checkPoints.calls _ _ l0_0 _ _ l0_1 _ _ l0_2 (rd l0_0 0) (rd l0_0 0) a1_0 a1_1 t226 _ ?side1 ?side2 ?side3 ?side4 ?side5 ?side6 A10.out).mono ?_); (case side1 => repeat (first | exact (Kd.C_below HR0_0.out HB.out) | (with_reducible refine Kd.C_alloc ?_ _) | (with_reducible refine Kd.C_drewN ?_ _) | (with_reducible refine Kd.C_drew ?_))); (case side2 => exact HC0_0.out); (case side3 => repeat (first | exact (Kd.C_below HR0_1.out HB.out) | (with_reducible refine Kd.C_alloc ?_ _) | (with_reducible refine Kd.C_drewN ?_ _) | (with_reducible refine Kd.C_drew ?_))); (case side4 => exact HC0_1.out); (case side5 => repeat (first | exact (Kd.C_below HR0_2.out HB.out) | (with_reducible refine Kd.C_alloc ?_ _) | (with_reducible refine Kd.C_drewN ?_ _) | (with_reducible refine Kd.C_drew ?_))); (case side6 => exact HC0_2.out); rintro e w59 ⟨rfl, hb⟩; have n0_ := Aside0.mk (blk_below (g := gb221) (o := .cells #[.slice (some ad224) l0_0.length c0_0, .slice A0_1 l0_1.length c0_1, .slice A0_2 l0_2.length c0_2] 25 (0, 0)) (by (with_reducible repeat (first | refine blk_drewN ?_ _ | refine blk_drew ?_ | refine blk_alloc ?_ _)); exact BK221.out) hb); have n1_ := Aside0.mk (blk_below (g := gb222) (o := .cells #[.int .i64 a1_0, .int .i64 a1_1] 27 (0, 0)) (by (with_reducible repeat (first | refine blk_drewN ?_ _ | refine blk_drew ?_ | refine blk_alloc ?_ _)); exact BK222.out) hb); have n2_ := Aside0.mk (below_step (by repeat (first | (with_reducible first | exact HB.out | apply below_alloc | apply pw_below_drewN | apply below_drew1 | refine below_set ?_ GE221.out | refine below_set ?_ GE222.out) | exact HB.out)) hb); clear BK221; clear BK222; clear HB; have BK221 := n0_; have BK222 := n1_; have HB := n2_; clear n0_ n1_ n2_; (try clear hb); (try clear hb2); (try clear hk); (try clear hi))))
            go_ret2
            exact ⟨by first | rfl | (simp [errW_none, errW_some] <;> rfl) | (simp only [← hji7]; first | rfl | (simp [errW_none, errW_some] <;> rfl)) | (simp [*, errW_none, errW_some] <;> rfl), by repeat (first | (with_reducible first | exact HB.out | apply below_alloc | apply pw_below_drewN | apply below_drew1 | refine below_set ?_ GE221.out | refine below_set ?_ GE222.out) | exact HB.out)⟩
        · rw [if_neg c9] at H
          exact absurd H (by simp)
      · rw [if_neg c8] at H
        exact absurd H (by simp)
    · rw [if_neg c6] at H
      exact absurd H (by simp)
  · rw [if_neg c5] at H
    have c5b0 : (t223 == 0) = false := beq_eq_false_iff_ne.mpr c5
    have c5b1 : (t223 != 0) = true := bne_iff_ne.mpr c5
    simp only [Option.some.injEq, Prod.mk.injEq] at H
    obtain ⟨rfl, rfl⟩ := H
    go_enter Try.func23, Try.ntmps23
    go_wp2_with (first | ((with_reducible refine gate_dst (N := 3) rfl ?_); refine box_event ?hg (N := 3) ?hd (cs := #[.slice A0_0 l0_0.length c0_0, .slice A0_1 l0_1.length c0_1, .slice A0_2 l0_2.length c0_2]) (t := 25) ?hr ?_; (case hd => rfl); (case hg => rfl); (case hr => first | (go_simp; done) | (go_simp; rfl)); intro gb221 hg w60 hbox hb; have n0_ := Aside0.mk (below_step (by repeat (first | (with_reducible first | exact HB.out | apply below_alloc | apply pw_below_drewN | apply below_drew1) | exact HB.out)) hb); have n1_ := Aside0.mk (hbox); have n2_ := Aside0.mk ((by rw [hg]; exact (below_size (by repeat (first | (with_reducible first | exact HB.out | apply below_alloc | apply pw_below_drewN | apply below_drew1) | exact HB.out))) : w.heap.size ≤ gb221)); have n3_ := Aside0.mk ((by rw [hg]; exact (below_size (by repeat (first | (with_reducible first | exact HB.out | apply below_alloc | apply pw_below_drewN | apply below_drew1) | exact HB.out))) : w.heap.size ≤ gb221)); clear HB; have HB := n0_; have BK221 := n1_; have GW221 := n2_; have GE221 := n3_; clear n0_ n1_ n2_ n3_; clear hb hbox hg) | ((with_reducible refine gate_dst (N := 4) rfl ?_); refine box_event ?hg (N := 4) ?hd (cs := #[.int .i64 a1_0, .int .i64 a1_1]) (t := 27) ?hr ?_; (case hd => rfl); (case hg => rfl); (case hr => first | (go_simp; done) | (go_simp; rfl)); intro gb222 hg w61 hbox hb; have n0_ := Aside0.mk (blk_below (g := gb221) (o := .cells #[.slice A0_0 l0_0.length c0_0, .slice A0_1 l0_1.length c0_1, .slice A0_2 l0_2.length c0_2] 25 (0, 0)) (by (with_reducible repeat (first | refine blk_drewN ?_ _ | refine blk_drew ?_ | refine blk_alloc ?_ _)); exact BK221.out) hb); have n1_ := Aside0.mk (below_step (by repeat (first | (with_reducible first | exact HB.out | apply below_alloc | apply pw_below_drewN | apply below_drew1 | refine below_set ?_ GE221.out) | exact HB.out)) hb); have n2_ := Aside0.mk (hbox); have n3_ := Aside0.mk ((by rw [hg]; exact (below_size (by repeat (first | (with_reducible first | exact HB.out | apply below_alloc | apply pw_below_drewN | apply below_drew1 | refine below_set ?_ GE221.out) | exact HB.out))) : w.heap.size ≤ gb222)); have n4_ := Aside0.mk ((by rw [hg]; exact (below_size (by repeat (first | (with_reducible first | exact HB.out | apply below_alloc | apply pw_below_drewN | apply below_drew1 | refine below_set ?_ GE221.out) | exact HB.out))) : w.heap.size ≤ gb222)); have n5_ := Aside0.mk ((by rw [hg]; exact Nat.ne_of_lt (blk_lt (g := gb221) (o := .cells #[.slice A0_0 l0_0.length c0_0, .slice A0_1 l0_1.length c0_1, .slice A0_2 l0_2.length c0_2] 25 (0, 0)) (by (with_reducible repeat (first | refine blk_drewN ?_ _ | refine blk_drew ?_ | refine blk_alloc ?_ _)); exact BK221.out)) : gb221 ≠ gb222)); have n6_ := Aside0.mk ((by rw [hg]; exact Nat.ne_of_gt (blk_lt (g := gb221) (o := .cells #[.slice A0_0 l0_0.length c0_0, .slice A0_1 l0_1.length c0_1, .slice A0_2 l0_2.length c0_2] 25 (0, 0)) (by (with_reducible repeat (first | refine blk_drewN ?_ _ | refine blk_drew ?_ | refine blk_alloc ?_ _)); exact BK221.out)) : gb222 ≠ gb221)); clear BK221; clear HB; have BK221 := n0_; have HB := n1_; have BK222 := n2_; have GW222 := n3_; have GE222 := n4_; have NB221_222 := n5_; have NB222_221 := n6_; clear n0_ n1_ n2_ n3_ n4_ n5_ n6_; clear hb hbox hg; have hnb62 := NB221_222.out; have hnc62 := NB222_221.out; have hcz63_0 : w61.cell? ⟨gb221, 0, none⟩ = some (.slice A0_0 l0_0.length c0_0) := (blk_cell BK221.out 0).trans rfl; have hcz63_1 : w61.cell? ⟨gb221, 1, none⟩ = some (.slice A0_1 l0_1.length c0_1) := (blk_cell BK221.out 1).trans rfl; have hcz63_2 : w61.cell? ⟨gb221, 2, none⟩ = some (.slice A0_2 l0_2.length c0_2) := (blk_cell BK221.out 2).trans rfl; have hfz63_0 := blk_frozen BK221.out 0; have hfz63_1 := blk_frozen BK221.out 1; have hfz63_2 := blk_frozen BK221.out 2) | (go_at_call 29; (with_reducible refine (spans_CheckTable.calls _ _ l0_0 _ _ l0_1 _ _ l0_2 t223 _ ?side1 ?side2 ?side3 ?side4 ?side5 ?side6 A4.out).mono ?_); (case side1 => repeat (first | exact (Kd.C_below HR0_0.out HB.out) | (with_reducible refine Kd.C_alloc ?_ _) | (with_reducible refine Kd.C_drewN ?_ _) | (with_reducible refine Kd.C_drew ?_))); (case side2 => exact HC0_0.out); (case side3 => repeat (first | exact (Kd.C_below HR0_1.out HB.out) | (with_reducible refine Kd.C_alloc ?_ _) | (with_reducible refine Kd.C_drewN ?_ _) | (with_reducible refine Kd.C_drew ?_))); (case side4 => exact HC0_1.out); (case side5 => repeat (first | exact (Kd.C_below HR0_2.out HB.out) | (with_reducible refine Kd.C_alloc ?_ _) | (with_reducible refine Kd.C_drewN ?_ _) | (with_reducible refine Kd.C_drew ?_))); (case side6 => exact HC0_2.out); rintro e w64 ⟨rfl, hb⟩; have n0_ := Aside0.mk (blk_below (g := gb221) (o := .cells #[.slice A0_0 l0_0.length c0_0, .slice A0_1 l0_1.length c0_1, .slice A0_2 l0_2.length c0_2] 25 (0, 0)) (by (with_reducible repeat (first | refine blk_drewN ?_ _ | refine blk_drew ?_ | refine blk_alloc ?_ _)); exact BK221.out) hb); have n1_ := Aside0.mk (blk_below (g := gb222) (o := .cells #[.int .i64 a1_0, .int .i64 a1_1] 27 (0, 0)) (by (with_reducible repeat (first | refine blk_drewN ?_ _ | refine blk_drew ?_ | refine blk_alloc ?_ _)); exact BK222.out) hb); have n2_ := Aside0.mk (below_step (by repeat (first | (with_reducible first | exact HB.out | apply below_alloc | apply pw_below_drewN | apply below_drew1 | refine below_set ?_ GE221.out | refine below_set ?_ GE222.out) | exact HB.out)) hb); clear BK221; clear BK222; clear HB; have BK221 := n0_; have BK222 := n1_; have HB := n2_; clear n0_ n1_ n2_; (try clear hb); (try clear hb2); (try clear hk); (try clear hi)))
    go_ret2
    exact ⟨by first | rfl | (simp [errW_none, errW_some] <;> rfl) | (simp [*, errW_none, errW_some] <;> rfl), by repeat (first | (with_reducible first | exact HB.out | apply below_alloc | apply pw_below_drewN | apply below_drew1 | refine below_set ?_ GE221.out | refine below_set ?_ GE222.out) | exact HB.out)⟩
end Go.Proofs.Yteodlmgmmpkpoaa.PS
end
