-- Printed by a program of this session out of the translation (hybrid print) and out of hand proofs. Not trusted: Lean checks it.
import Derived.Below
import Derived.Deep.Draws
import Derived.Deep.AppendLies
import Derived.Maps.AppendAt
import Derived.OwnWalk
import Derived.Laws.BytesArg
import Derived.Laws.MakeOwn
import Derived.Laws.OwnMore
import Derived.Deep.OwnRows
import Derived.Tactics
import Derived.Lib.ConvBytes
import Derived.Laws.Slices
import Derived.WalkKit
import Derived.KernelRfl
import Derived.RowKit3
import Derived.Deep.LoopGhost
import Derived.Deep.QuietTactic
import Derived.BigQuiet
import Derived.WideLaws
import Derived.Deep.DeepCutAuto
import Derived.Deep.CutBlock
import Derived.Deep.RegionHeld3
import Derived.Laws.Rows
import Derived.Lib.AppendStr
import Derived.ArgAppend
import Derived.Laws.IdiomCopy
import Derived.RowKit
import Derived.OrdersHeld
import Derived.Laws.BitsLemmas
import Derived.Test.YteodlmgmmpkpoaaProg
import Derived.StillTailTactics
import Derived.Test.YteodlmgmmpkpoaaV1
section
namespace Go.Proofs.Yteodlmgmmpkpoaa.PS
open Go.RowKit Go.Proofs.YteodlmgmmpkpoaaW.PrintWords Go.Proofs.YteodlmgmmpkpoaaW.PrintLast Go.Proofs.YteodlmgmmpkpoaaW.PrintMore
set_option linter.unusedVariables false
set_option linter.unusedSimpArgs false
set_option maxHeartbeats 4000000 in
set_option maxRecDepth 100000 in
theorem value_core (kf : Nat) (adX adY adV ad0 ad1 : Addr) (X Y : List Int) (cX cY nV cV n0 c0 n1 c1 : Nat) (x y i k i1 k1 x0 x1 y0 y1 v00 v10 v01 v11 a b c d ac bc ae be p00 p10 p01 p11 s1 s2 s3 ab cd den : Int) (w : World)
    (hrX : Kd.C (Kd.int .i64) w (some adX) X.length X) (hcX : X.length ≤ cX) (hrY : Kd.C (Kd.int .i64) w (some adY) Y.length Y) (hcY : Y.length ≤ cY)
    (hi : swashplateref01_part.f kf X x = some i) (hk : swashplateref01_part.f kf Y y = some k)
    (ei1 : IntKind.i64.wrap (i + 1) = i1) (ek1 : IntKind.i64.wrap (k + 1) = k1)
    (bi : decide (0 ≤ i) = true) (bk : decide (0 ≤ k) = true) (bi1 : decide (0 ≤ i1) = true) (bk1 : decide (0 ≤ k1) = true)
    (li : decide (i < (X.length : Int)) = true) (lk : decide (k < (Y.length : Int)) = true) (li1 : decide (i1 < (X.length : Int)) = true) (lk1 : decide (k1 < (Y.length : Int)) = true)
    (vi : decide (i < (nV : Int)) = true) (vi1 : decide (i1 < (nV : Int)) = true)
    (r0 : decide (k < (n0 : Int)) = true) (r01 : decide (k1 < (n0 : Int)) = true) (r1 : decide (k < (n1 : Int)) = true) (r11 : decide (k1 < (n1 : Int)) = true)
    (cx0 : w.cell? (adX.add i.toNat) = some (.int .i64 x0)) (cx1 : w.cell? (adX.add i1.toNat) = some (.int .i64 x1))
    (cy0 : w.cell? (adY.add k.toNat) = some (.int .i64 y0)) (cy1 : w.cell? (adY.add k1.toNat) = some (.int .i64 y1))
    (cv0 : w.cell? (adV.add i.toNat) = some (.slice (some ad0) n0 c0)) (cv1 : w.cell? (adV.add i1.toNat) = some (.slice (some ad1) n1 c1))
    (c00 : w.cell? (ad0.add k.toNat) = some (.int .i64 v00)) (c01 : w.cell? (ad0.add k1.toNat) = some (.int .i64 v01))
    (c10 : w.cell? (ad1.add k.toNat) = some (.int .i64 v10)) (c11 : w.cell? (ad1.add k1.toNat) = some (.int .i64 v11))
    (ea : IntKind.i64.wrap (x1 - x) = a) (eb : IntKind.i64.wrap (x - x0) = b) (ec : IntKind.i64.wrap (y1 - y) = c) (ed : IntKind.i64.wrap (y - y0) = d)
    (eac : IntKind.i64.wrap (a * c) = ac) (ebc : IntKind.i64.wrap (b * c) = bc) (eae : IntKind.i64.wrap (a * d) = ae) (ebe : IntKind.i64.wrap (b * d) = be)
    (e00 : IntKind.i64.wrap (ac * v00) = p00) (e10 : IntKind.i64.wrap (bc * v10) = p10) (e01 : IntKind.i64.wrap (ae * v01) = p01) (e11 : IntKind.i64.wrap (be * v11) = p11)
    (es1 : IntKind.i64.wrap (p00 + p10) = s1) (es2 : IntKind.i64.wrap (s1 + p01) = s2) (es3 : IntKind.i64.wrap (s2 + p11) = s3)
    (eab : IntKind.i64.wrap (x1 - x0) = ab) (ecd : IntKind.i64.wrap (y1 - y0) = cd) (eden : IntKind.i64.wrap (ab * cd) = den) :
    Calls Try.prog 102 #[.agg #[.slice (some adX) X.length cX, .slice (some adY) Y.length cY, .slice (some adV) nV cV], .int .i64 x, .int .i64 y] w fun e w' => e = .returned (.tuple #[.int .i64 s3, .int .i64 den]) ∧ Below w.heap.size w w' := by
  have HRX := Aside0.mk hrX
  have HRY := Aside0.mk hrY
  have HI := Aside0.mk hi
  have HK := Aside0.mk hk
  clear hrX hrY hi hk
  replace bi := eq_true (of_decide_eq_true bi)
  replace bk := eq_true (of_decide_eq_true bk)
  replace bi1 := eq_true (of_decide_eq_true bi1)
  replace bk1 := eq_true (of_decide_eq_true bk1)
  replace li := eq_true (of_decide_eq_true li)
  replace lk := eq_true (of_decide_eq_true lk)
  replace li1 := eq_true (of_decide_eq_true li1)
  replace lk1 := eq_true (of_decide_eq_true lk1)
  replace vi := eq_true (of_decide_eq_true vi)
  replace vi1 := eq_true (of_decide_eq_true vi1)
  replace r0 := eq_true (of_decide_eq_true r0)
  replace r01 := eq_true (of_decide_eq_true r01)
  replace r1 := eq_true (of_decide_eq_true r1)
  replace r11 := eq_true (of_decide_eq_true r11)
  go_enter Try.func102, Try.ntmps102
  go_wp2
  have hb : Below w.heap.size w (w.alloc (.cells #[.slice (some adX) X.length cX, .slice (some adY) Y.length cY, .slice (some adV) nV cV] 25)) := (Below.refl _ _).alloc (Nat.le_refl _) _
  have hT : (w.alloc (.cells #[.slice (some adX) X.length cX, .slice (some adY) Y.length cY, .slice (some adV) nV cV] 25)).heap[w.heap.size]? = some (.cells #[.slice (some adX) X.length cX, .slice (some adY) Y.length cY, .slice (some adV) nV cV] 25 (0, 0)) := blk_new _ _
  obtain ⟨W1, hW1⟩ : ∃ W1, w.alloc (.cells #[.slice (some adX) X.length cX, .slice (some adY) Y.length cY, .slice (some adV) nV cV] 25) = W1 := ⟨_, rfl⟩
  rw [show w.alloc _ = W1 from hW1]
  rw [hW1] at hb hT
  clear hW1
  have tx := (blk_cell hT 0).trans rfl
  have ty := (blk_cell hT 1).trans rfl
  have tv := (blk_cell hT 2).trans rfl
  have HB := Aside0.mk hb
  clear hT
  replace cx0 := (hb.cell (World.block_lt_of_cell? _ _ cx0)).trans cx0
  replace cx1 := (hb.cell (World.block_lt_of_cell? _ _ cx1)).trans cx1
  replace cy0 := (hb.cell (World.block_lt_of_cell? _ _ cy0)).trans cy0
  replace cy1 := (hb.cell (World.block_lt_of_cell? _ _ cy1)).trans cy1
  replace cv0 := (hb.cell (World.block_lt_of_cell? _ _ cv0)).trans cv0
  replace cv1 := (hb.cell (World.block_lt_of_cell? _ _ cv1)).trans cv1
  replace c00 := (hb.cell (World.block_lt_of_cell? _ _ c00)).trans c00
  replace c01 := (hb.cell (World.block_lt_of_cell? _ _ c01)).trans c01
  replace c10 := (hb.cell (World.block_lt_of_cell? _ _ c10)).trans c10
  replace c11 := (hb.cell (World.block_lt_of_cell? _ _ c11)).trans c11
  clear hb
  go_quiet (first
    | (go_at_call 156; (with_reducible refine (swashplateref01_part.calls kf _ _ X x i _ (by exact Kd.C_drewN (Kd.C_below HRX.out HB.out) _) hcX HI.out).mono ?_); rintro e w' ⟨rfl, ⟨nd, rfl⟩⟩; (first | exact ⟨rfl, _, World.drewN_drewN _ _ _⟩ | exact ⟨rfl, _, Eq.trans (World.drewN_drewN _ _ _) (congrArg (World.drewN _) (Nat.add_assoc _ _ _))⟩))
    | (go_at_call 156; (with_reducible refine (swashplateref01_part.calls kf _ _ Y y k _ (by exact Kd.C_drewN (Kd.C_below HRY.out HB.out) _) hcY HK.out).mono ?_); rintro e w' ⟨rfl, ⟨nd, rfl⟩⟩; (first | exact ⟨rfl, _, World.drewN_drewN _ _ _⟩ | exact ⟨rfl, _, Eq.trans (World.drewN_drewN _ _ _) (congrArg (World.drewN _) (Nat.add_assoc _ _ _))⟩)))
  revert nq; intro n1
  go_wp2
  go_quiet (fail)
  revert nq; intro n2
  go_wp2
  go_quiet (fail)
  revert nq; intro n3
  go_wp2
  go_quiet (fail)
  go_wp2
  go_ret2
  exact ⟨rfl, pw_below_drewN (pw_below_drewN HB.out _) _⟩
end Go.Proofs.Yteodlmgmmpkpoaa.PS
end
section
namespace Go.Proofs.Yteodlmgmmpkpoaa.PS
open Go.RowKit Go.Proofs.YteodlmgmmpkpoaaW.PrintWords Go.Proofs.YteodlmgmmpkpoaaW.PrintLast Go.Proofs.YteodlmgmmpkpoaaW.PrintMore
set_option linter.unusedVariables false
set_option linter.unusedSimpArgs false
set_option maxHeartbeats 4000000 in
theorem swashplateref01_Value.calls (A0_0 : Option Addr) (c0_0 : Nat) (l0_0 : List Int) (A0_1 : Option Addr) (c0_1 : Nat) (l0_1 : List Int) (A0_2 : Option Addr) (c0_2 : Nat) (l0_2 : List (List Int)) (a1 : Int) (a2 : Int) (r1 : Int) (r2 : Int) (w : World) (hr0_0 : Kd.C (Kd.int .i64) w A0_0 l0_0.length l0_0) (hc0_0 : l0_0.length ≤ c0_0) (hr0_1 : Kd.C (Kd.int .i64) w A0_1 l0_1.length l0_1) (hc0_1 : l0_1.length ≤ c0_1) (hr0_2 : Kd.C (Kd.slice 3 (Kd.int .i64)) w A0_2 l0_2.length l0_2) (hc0_2 : l0_2.length ≤ c0_2) (h : swashplateref01_Value.f l0_0 l0_1 l0_2 a1 a2 = some (r1, r2)) :
    Calls Try.prog 102 #[.agg #[.slice A0_0 l0_0.length c0_0, .slice A0_1 l0_1.length c0_1, .slice A0_2 l0_2.length c0_2], .int .i64 a1, .int .i64 a2] w fun e w' => e = .returned (.tuple #[.int .i64 r1, .int .i64 r2]) ∧ Below w.heap.size w w' := by
  unfold swashplateref01_Value.f at h
  by_cases hg : (tableB l0_0 l0_1 l0_2 && (onB l0_0 a1 a1 && onB l0_1 a2 a2)) = true
  · rw [if_pos hg] at h
    simp only [Option.some.injEq, Prod.mk.injEq] at h
    obtain ⟨rfl, rfl⟩ := h
    simp only [Bool.and_eq_true] at hg
    obtain ⟨ht, hx, hy⟩ := hg
    have t := tb_of ht
    have q := quad_of t (part_spot t.ax hx) (part_spot t.ay hy)
    have hlx := t.ax.most
    have hly := t.ay.most
    have hltx := q.sx.lt
    have hlty := q.sy.lt
    obtain ⟨adX, rfl, cX⟩ := cell_int hr0_0 (by omega)
    obtain ⟨adY, rfl, cY⟩ := cell_int hr0_1 (by omega)
    obtain ⟨adV, rfl, cV⟩ := cell_rows (m := l0_1.length) hr0_2 (by have := t.len; omega) (by omega) (fun i hi => t.row i (by have := t.len; omega))
    have hci := part_total t.ax a1 13 (by omega)
    have hck := part_total t.ay a2 13 (by omega)
    have h00 := t.val (partOf l0_0 a1) (partOf l0_1 a2) (by omega) (by omega)
    have h10 := t.val (partOf l0_0 a1 + 1) (partOf l0_1 a2) (by omega) (by omega)
    have h01 := t.val (partOf l0_0 a1) (partOf l0_1 a2 + 1) (by omega) (by omega)
    have h11 := t.val (partOf l0_0 a1 + 1) (partOf l0_1 a2 + 1) (by omega) (by omega)
    unfold ptRef numAt denAt
    dsimp only
    generalize partOf l0_0 a1 = i at *
    generalize partOf l0_1 a2 = k at *
    obtain ⟨ar0, c0, hv0, hr0⟩ := cV i (by have := t.len; omega)
    obtain ⟨ar1, c1, hv1, hr1⟩ := cV (i + 1) (by have := t.len; omega)
    have bac := mul_bd q.a0 q.a1 q.c0 q.c1
    have bbc := mul_bd q.b0 q.b1 q.c0 q.c1
    have bad := mul_bd q.a0 q.a1 q.d0 q.d1
    have bbd := mul_bd q.b0 q.b1 q.d0 q.d1
    have p00 := mul_bd2 bac.1 bac.2 h00.1 h00.2 (by decide)
    have p10 := mul_bd2 bbc.1 bbc.2 h10.1 h10.2 (by decide)
    have p01 := mul_bd2 bad.1 bad.2 h01.1 h01.2 (by decide)
    have p11 := mul_bd2 bbd.1 bbd.2 h11.1 h11.2 (by decide)
    have bef := mul_bd (a := gI l0_0 (i + 1) - gI l0_0 i) (b := gI l0_1 (k + 1) - gI l0_1 k) (by have := q.e0; omega) q.e1 (by have := q.f0; omega) q.f1
    have ix0 := t.ax.inn i (by omega)
    have iy0 := t.ay.inn k (by omega)
    have qa0 := q.a0; have qa1 := q.a1; have qb0 := q.b0; have qb1 := q.b1; have qc0 := q.c0; have qc1 := q.c1; have qd0 := q.d0; have qd1 := q.d1
    refine value_core 13 adX adY adV ar0 ar1 l0_0 l0_1 c0_0 c0_1 l0_2.length c0_2 l0_1.length c0 l0_1.length c1 a1 a2 i k (i + 1 : Nat) (k + 1 : Nat) (gI l0_0 i) (gI l0_0 (i + 1)) (gI l0_1 k) (gI l0_1 (k + 1)) (gV l0_2 i k) (gV l0_2 (i + 1) k) (gV l0_2 i (k + 1)) (gV l0_2 (i + 1) (k + 1))
      _ _ _ _ _ _ _ _ _ _ _ _ _ _ _ _ _ _ w hr0_0 hc0_0 hr0_1 hc0_1 hci hck
      (wrI (by omega) (by omega)) (wrI (by omega) (by omega)) ?_ ?_ ?_ ?_ ?_ ?_ ?_ ?_ ?_ ?_ ?_ ?_ ?_ ?_ (cX i (by omega)) (cX (i + 1) (by omega)) (cY k (by omega)) (cY (k + 1) (by omega)) hv0 hv1
      (hr0 k (by omega)) (hr0 (k + 1) (by omega)) (hr1 k (by omega)) (hr1 (k + 1) (by omega))
      (wrI (by omega) (by omega)) (wrI (by omega) (by omega)) (wrI (by omega) (by omega)) (wrI (by omega) (by omega))
      (wrI (by omega) (by omega)) (wrI (by omega) (by omega)) (wrI (by omega) (by omega)) (wrI (by omega) (by omega))
      (wrI (by omega) (by omega)) (wrI (by omega) (by omega)) (wrI (by omega) (by omega)) (wrI (by omega) (by omega))
      (wrI (by omega) (by omega)) (wrI (by omega) (by omega)) (wrI (by omega) (by omega)) (wrI (by omega) (by omega)) (wrI (by omega) (by omega)) (wrI (by omega) (by omega))
    all_goals (rw [decide_eq_true_eq]; have := t.len; omega)
  · rw [if_neg hg] at h
    exact absurd h (by simp)
end Go.Proofs.Yteodlmgmmpkpoaa.PS
end
section
namespace Go.Proofs.Yteodlmgmmpkpoaa.PS
open Go.RowKit Go.Proofs.YteodlmgmmpkpoaaW.PrintWords Go.Proofs.YteodlmgmmpkpoaaW.PrintLast Go.Proofs.YteodlmgmmpkpoaaW.PrintMore
set_option linter.unusedVariables false
theorem ceil_total (a b : Int) (hb : 0 < b) (h0 : -4000000000000000000 ≤ a) (h1 : a ≤ 4000000000000000000) : spans_ceil.f a b = some (-((-a) / b)) := by
  unfold spans_ceil.f
  rw [wr64 (by omega) (by omega), floor_total _ _ hb (by omega) (by omega), Option.bind_some]
  have hq := ediv_bd (a := -a) hb (B := 4000000000000000000) (by omega) (by omega) (by decide)
  rw [wr64 (by omega) (by omega)]
theorem rfloor_total (a b : Int) (hb : 0 < b) (hb1 : b ≤ 1000000000000) (h0 : -4000000000000000000 ≤ a) (h1 : a ≤ 4000000000000000000) : swashplateref01_floor.f a b = some (a / b) := by
  unfold swashplateref01_floor.f
  have hq := ediv_bd hb h0 h1 (by decide)
  by_cases ha : a ≥ 0
  · rw [if_pos ha, if_neg (by omega), Int.tdiv_eq_ediv_of_nonneg ha, wr64 (by omega) (by omega)]
  · rw [if_neg ha]
    have e1 : wrap64 (wrap64 (wrap64 (-a) + b) - 1) = -a + b - 1 := by
      rw [show wrap64 (-a) = -a from wr64 (by omega) (by omega), show wrap64 (-a + b) = -a + b from wr64 (by omega) (by omega), wr64 (by omega) (by omega)]
    rw [e1, if_neg (by omega), Int.tdiv_eq_ediv_of_nonneg (by omega)]
    have e2 : (-a + b - 1) / b = -(a / b) := by
      rw [Int.ediv_eq_iff_of_pos hb]
      have := Int.mul_ediv_add_emod a b
      have hm0 := Int.emod_nonneg a (show b ≠ 0 by omega)
      have hm1 := Int.emod_lt_of_pos a hb
      have e3 : -(a / b) * b = -(b * (a / b)) := by rw [Int.neg_mul, Int.mul_comm]
      rw [e3]
      omega
    rw [e2, show wrap64 (-(a / b)) = -(a / b) from wr64 (by omega) (by omega), Int.neg_neg, wr64 (by omega) (by omega)]
theorem rceil_total (a b : Int) (hb : 0 < b) (hb1 : b ≤ 1000000000000) (h0 : -4000000000000000000 ≤ a) (h1 : a ≤ 4000000000000000000) : swashplateref01_ceil.f a b = some (-((-a) / b)) := by
  unfold swashplateref01_ceil.f
  rw [wr64 (by omega) (by omega), rfloor_total _ _ hb hb1 (by omega) (by omega), Option.bind_some]
  have hq := ediv_bd (a := -a) hb (B := 4000000000000000000) (by omega) (by omega) (by decide)
  rw [wr64 (by omega) (by omega)]
end Go.Proofs.Yteodlmgmmpkpoaa.PS
end
section
namespace Go.Proofs.Yteodlmgmmpkpoaa.PS
open Go.RowKit Go.Deep Go.ChangeShapes Go.WideShapes Go.ChangeAt Go.Proofs.YteodlmgmmpkpoaaW.PrintWords
set_option linter.unusedVariables false
section
variable {H : Type} {enc : TypeId × Value → H} {w : World} {base : Nat} {held : Bool} {v : Value} {d : DataW H} {ps : List MemPlace} {r : Reach} {b0 : Nat}
set_option maxRecDepth 100000 in
theorem arg28 (hv : Value.okWide Try.prog w r b0 28 v) (h : DataW.Trod enc Try.prog w base (fun _ => true) held 28 v d ps) :
    ∃ x y : Int, v = .agg #[.int .i64 x, .int .i64 y] ∧ wfI x ∧ wfI y := by
  have hv' := hv
  unfold Value.okWide at hv'
  rw [Try.underlying28] at hv'
  obtain ⟨cs, rfl, hsz, _⟩ := hv'
  obtain ⟨c0, c1, rfl⟩ : ∃ a b, cs = #[a, b] := by
    have hs : cs.toList.length = 2 := hsz.trans (by kernel_rfl)
    match h : cs.toList, hs with
    | [a, b], _ => exact ⟨a, b, by rw [← Array.toArray_toList (xs := cs), h]⟩
  obtain ⟨fuel, hf⟩ := h
  obtain ⟨xs, m, _, _, _, hl, hx⟩ := DataW.trod_array Try.underlying28 hf
  have e3 : Try.prog.cellsOf 3 = 1 := by kernel_rfl
  have h0 := hx 0 (by omega)
  have h1 := hx 1 (by omega)
  match xs, hl with
  | [y0, y1], _ =>
    simp only [e3, Value.cells, Nat.zero_mul, Nat.one_mul, List.drop_zero, List.drop_succ_cons, List.take_succ_cons, List.take_zero, List.getElem?_cons_zero, List.getElem?_cons_succ] at h0 h1
    obtain ⟨x, hx0, _, wx⟩ := DataW.trod_int Try.underlying3 h0
    obtain ⟨y, hy0, _, wy⟩ := DataW.trod_int Try.underlying3 h1
    simp only [List.cons.injEq, and_true] at hx0 hy0
    subst hx0 hy0
    exact ⟨x, y, rfl, wx, wy⟩
end
end Go.Proofs.Yteodlmgmmpkpoaa.PS
end
section
namespace Go.Proofs.Yteodlmgmmpkpoaa.PS
open Go.RowKit Go.Deep Go.ChangeShapes Go.WideShapes Go.ChangeAt Go.Proofs.YteodlmgmmpkpoaaW.PrintWords
set_option linter.unusedVariables false
section
variable {H : Type} {enc : TypeId × Value → H} {w : World} {base : Nat} {held : Bool} {v : Value} {d : DataW H} {ps : List MemPlace} {r : Reach} {b0 : Nat}
set_option maxRecDepth 100000 in
theorem arg50 (hv : Value.okWide Try.prog w r b0 50 v) (h : DataW.Trod enc Try.prog w base (fun _ => true) held 50 v d ps) :
    ∃ x y : Int, v = .agg #[.int .i64 x, .int .i64 y] := by
  obtain ⟨cs, rfl, hsz⟩ := okWide_struct Try.underlying50 hv
  obtain ⟨c0, c1, rfl⟩ : ∃ a b, cs = #[a, b] := by
    have hs : cs.toList.length = 2 := hsz.trans (by kernel_rfl)
    match h : cs.toList, hs with
    | [a, b], _ => exact ⟨a, b, by rw [← Array.toArray_toList (xs := cs), h]⟩
  obtain ⟨fuel, hf⟩ := h
  obtain ⟨y0, y1, n, _, hl, h0, h1⟩ := trod_struct2 Try.underlying50 hf
  have e1 : Try.prog.cellsOf 3 = 1 := by kernel_rfl
  simp only [e1, Value.cells, List.drop_zero, List.drop_succ_cons, List.take_succ_cons, List.take_zero] at h0 h1
  obtain ⟨x, hx, _⟩ := DataW.trod_int Try.underlying3 h0
  obtain ⟨y, hy, _⟩ := DataW.trod_int Try.underlying3 h1
  simp only [List.cons.injEq, and_true] at hx hy
  subst hx hy
  exact ⟨x, y, rfl⟩
end
end Go.Proofs.Yteodlmgmmpkpoaa.PS
end
section
namespace Go.Proofs.Yteodlmgmmpkpoaa.PS
set_option linter.unusedVariables false
theorem spots_meet {l : List Int} (h : Ax l) {x : Int} {i j : Nat} (a : Spot l x i) (b : Spot l x j) : i = j ∨ (j = i + 1 ∧ x = gI l j) ∨ (i = j + 1 ∧ x = gI l i) := by
  have a1 := a.lo; have a2 := a.hi; have a3 := a.lt
  have b1 := b.lo; have b2 := b.hi; have b3 := b.lt
  rcases Nat.lt_trichotomy i j with hlt | heq | hgt
  · right; left
    by_cases he : j = i + 1
    · subst he; exact ⟨rfl, by omega⟩
    · have := h.asc (i + 1) j (by omega) (by omega); omega
  · exact .inl heq
  · right; right
    by_cases he : i = j + 1
    · subst he; exact ⟨rfl, by omega⟩
    · have := h.asc (j + 1) i (by omega) (by omega); omega
theorem line_eq {l : List Int} (h : Ax l) {x : Int} {i j : Nat} (a : Spot l x i) (b : Spot l x j) (f : Nat → Int) :
    ((gI l (i + 1) - x) * f i + (x - gI l i) * f (i + 1)) * (gI l (j + 1) - gI l j) = ((gI l (j + 1) - x) * f j + (x - gI l j) * f (j + 1)) * (gI l (i + 1) - gI l i) := by
  rcases spots_meet h a b with rfl | ⟨rfl, hx⟩ | ⟨rfl, hx⟩
  · rfl
  · rw [hx]; simp only [Int.sub_self, Int.zero_mul, Int.zero_add, Int.add_zero]; grind
  · rw [hx]; simp only [Int.sub_self, Int.zero_mul, Int.zero_add, Int.add_zero]; grind
theorem numAt_x (X Y : List Int) (V : List (List Int)) (i k : Nat) (x y : Int) :
    numAt X Y V i k x y = (gI X (i + 1) - x) * ((gI Y (k + 1) - y) * gV V i k + (y - gI Y k) * gV V i (k + 1)) + (x - gI X i) * ((gI Y (k + 1) - y) * gV V (i + 1) k + (y - gI Y k) * gV V (i + 1) (k + 1)) := by
  unfold numAt; grind
theorem numAt_y (X Y : List Int) (V : List (List Int)) (i k : Nat) (x y : Int) :
    numAt X Y V i k x y = (gI Y (k + 1) - y) * ((gI X (i + 1) - x) * gV V i k + (x - gI X i) * gV V (i + 1) k) + (y - gI Y k) * ((gI X (i + 1) - x) * gV V i (k + 1) + (x - gI X i) * gV V (i + 1) (k + 1)) := by
  unfold numAt; grind
theorem frac_eq {X Y : List Int} {V : List (List Int)} (hx : Ax X) (hy : Ax Y) {x y : Int} {i i' k k' : Nat} (a : Spot X x i) (a' : Spot X x i') (b : Spot Y y k) (b' : Spot Y y k') :
    numAt X Y V i k x y * denAt X Y i' k' = numAt X Y V i' k' x y * denAt X Y i k := by
  have e1 := line_eq hx a a' (fun m => (gI Y (k + 1) - y) * gV V m k + (y - gI Y k) * gV V m (k + 1))
  have e2 := line_eq hy b b' (fun m => (gI X (i' + 1) - x) * gV V i' m + (x - gI X i') * gV V (i' + 1) m)
  rw [← numAt_x X Y V i k x y, ← numAt_x X Y V i' k x y] at e1
  rw [← numAt_y X Y V i' k x y, ← numAt_y X Y V i' k' x y] at e2
  unfold denAt
  generalize numAt X Y V i k x y = n1 at *
  generalize numAt X Y V i' k x y = n2 at *
  generalize numAt X Y V i' k' x y = n3 at *
  generalize gI X (i + 1) - gI X i = p at *
  generalize gI X (i' + 1) - gI X i' = p' at *
  generalize gI Y (k + 1) - gI Y k = q at *
  generalize gI Y (k' + 1) - gI Y k' = q' at *
  calc n1 * (p' * q') = (n1 * p') * q' := by rw [Int.mul_assoc]
    _ = (n2 * p) * q' := by rw [e1]
    _ = (n2 * q') * p := by rw [Int.mul_assoc, Int.mul_comm p q', ← Int.mul_assoc]
    _ = (n3 * q) * p := by rw [e2]
    _ = n3 * (p * q) := by rw [Int.mul_assoc, Int.mul_comm q p]
theorem div_eq {n d n' d' : Int} (hd : 0 < d) (hd' : 0 < d') (h : n * d' = n' * d) : n / d = n' / d' := by
  rw [← Int.mul_ediv_mul_of_pos_left n d hd', h, Int.mul_comm d d', Int.mul_ediv_mul_of_pos_left n' d' hd]
theorem fl_ce_eq {n d n' d' : Int} (hd : 0 < d) (hd' : 0 < d') (h : n * d' = n' * d) : n / d = n' / d' ∧ -((-n) / d) = -((-n') / d') := by
  refine ⟨div_eq hd hd' h, ?_⟩
  rw [div_eq (n := -n) (n' := -n') hd hd' (by rw [Int.neg_mul, Int.neg_mul, h])]
end Go.Proofs.Yteodlmgmmpkpoaa.PS
end
section
namespace Go.Proofs.Yteodlmgmmpkpoaa.PS
set_option linter.unusedVariables false
theorem den_pos {X Y : List Int} (hx : Ax X) (hy : Ax Y) {i k : Nat} (hi : i + 1 < X.length) (hk : k + 1 < Y.length) : 0 < denAt X Y i k := by
  unfold denAt
  have e1 := hx.asc i (i + 1) (by omega) hi
  have e2 := hy.asc k (k + 1) (by omega) hk
  exact Int.mul_pos (by omega) (by omega)
theorem pt_eq {X Y : List Int} {V : List (List Int)} (t : Tb X Y V) {x y : Int} (hx : onB X x x = true) (hy : onB Y y y = true) : flP (ptAt X Y V x y) = flP (ptRef X Y V x y) ∧ ceP (ptAt X Y V x y) = ceP (ptRef X Y V x y) := by
  have sx := cell_spot t.ax hx
  have sx' := part_spot t.ax hx
  have sy := cell_spot t.ay hy
  have sy' := part_spot t.ay hy
  exact fl_ce_eq (den_pos t.ax t.ay sx.lt sy.lt) (den_pos t.ax t.ay sx'.lt sy'.lt) (frac_eq t.ax t.ay sx sx' sy sy')
end Go.Proofs.Yteodlmgmmpkpoaa.PS
end
section
namespace Go.Proofs.Yteodlmgmmpkpoaa.PS
open Go.RowKit Go.Proofs.YteodlmgmmpkpoaaW.PrintWords Go.Proofs.YteodlmgmmpkpoaaW.PrintLast Go.Proofs.YteodlmgmmpkpoaaW.PrintMore
attribute [local go_sem] max2_int min2_int max_two min_two max_three min_three max_four min_four   -- for this text's walks alone
set_option linter.unusedVariables false
set_option linter.unusedSimpArgs false
def swashplateref01_Between.f (l0 : List Int) (a1_0 : Int) (a1_1 : Int) : Option (Bool) := if 0 < (l0.length : Int) then (if a1_0 ≥ (rd l0 0) then (if 0 ≤ (wrap64 ((l0.length : Int) - 1)) then (if (wrap64 ((l0.length : Int) - 1)) < (l0.length : Int) then (some (decide (a1_1 ≤ (rd l0 (wrap64 ((l0.length : Int) - 1)))))) else (none)) else (none)) else (some false)) else (none)
set_option maxHeartbeats 8000000 in
set_option maxRecDepth 100000 in
theorem swashplateref01_Between.calls (A0 : Option Addr) (c0 : Nat) (l0 : List Int) (a1_0 : Int) (a1_1 : Int) (r : Bool) (w : World) (hr0 : Kd.C (Kd.int .i64) w A0 l0.length l0) (hc0 : l0.length ≤ c0) (h : swashplateref01_Between.f l0 a1_0 a1_1 = some r) :
    Calls Try.prog 91 #[.slice A0 l0.length c0, .agg #[.int .i64 a1_0, .int .i64 a1_1]] w fun e w' => e = .returned (.bool r) ∧ Below w.heap.size w w' := by
  have hu27 := Try.underlying27
  have HR0 := Aside0.mk hr0
  have HC0 := Aside0.mk hc0
  clear hr0 hc0
  have HB := Aside0.mk (Below.refl w.heap.size w)
  have H : (if 0 < (l0.length : Int) then (if a1_0 ≥ (rd l0 0) then (if 0 ≤ (wrap64 ((l0.length : Int) - 1)) then (if (wrap64 ((l0.length : Int) - 1)) < (l0.length : Int) then (some (decide (a1_1 ≤ (rd l0 (wrap64 ((l0.length : Int) - 1)))))) else (none)) else (none)) else (some false)) else (none)) = some r := h
  clear h
  by_cases c3 : 0 < (l0.length : Int)
  · rw [if_pos c3] at H
    have c3b0 : decide (0 < (l0.length : Int)) = true := decide_eq_true c3
    have c3b1 : decide (0 < l0.length) = true := decide_eq_true (by omega)
    clear c3
    by_cases c4 : a1_0 ≥ (rd l0 0)
    · rw [if_pos c4] at H
      have c4b0 : decide ((rd l0 0) ≤ a1_0) = true := decide_eq_true c4
      clear c4
      obtain ⟨ji5, hji5⟩ : ∃ j_ : Int, (wrap64 ((l0.length : Int) - 1)) = j_ := ⟨_, rfl⟩
      replace H : (if 0 ≤ (ji5) then (if (ji5) < (l0.length : Int) then (some (decide (a1_1 ≤ (rd l0 (ji5))))) else (none)) else (none)) = some r := by first | (rw [hji5] at H; exact H) | (simp only [hji5] at H ⊢; exact H)
      have hji5w : (IntKind.i64.wrap ((l0.length : Int) - 1)) = ji5 := (i64_w _).trans hji5
      by_cases c6 : 0 ≤ (ji5)
      · rw [if_pos c6] at H
        have c6b0 : decide (0 ≤ (ji5)) = true := decide_eq_true c6
        clear c6
        by_cases c7 : (ji5) < (l0.length : Int)
        · rw [if_pos c7] at H
          have c7b0 : decide ((ji5) < (l0.length : Int)) = true := decide_eq_true c7
          clear c7
          obtain rfl := Option.some.inj H
          go_enter Try.func91, Try.ntmps91
          go_wp2_with (first | ((with_reducible refine gate_dst (N := 3) rfl ?_); (try (refine gate_guard (by rfl) ?_; dsimp only)); refine box_event ?hg (N := 3) ?hd (cs := #[.int .i64 a1_0, .int .i64 a1_1]) (t := 27) ?hr ?_; (case hd => rfl); (case hg => rfl); (case hr => first | (go_simp; done) | (go_simp; rfl)); intro gb425 hg w8 hbox hb; have n0_ := Aside0.mk (below_step (bl_ HB.out) hb); have n1_ := Aside0.mk (hbox); have n2_ := Aside0.mk ((by rw [hg]; exact (below_size (bl_ HB.out)) : w.heap.size ≤ gb425)); have n3_ := Aside0.mk ((by rw [hg]; exact (below_size (bl_ HB.out)) : w.heap.size ≤ gb425)); clear HB; have HB := n0_; have BK425 := n1_; have GW425 := n2_; have GE425 := n3_; clear n0_ n1_ n2_ n3_; clear hb hbox hg; have hcz9_0 : w8.cell? ⟨gb425, 0, none⟩ = some (.int .i64 a1_0) := (blk_cell BK425.out 0).trans rfl; have hcz9_1 : w8.cell? ⟨gb425, 1, none⟩ = some (.int .i64 a1_1) := (blk_cell BK425.out 1).trans rfl; have hfz9_0 := blk_frozen BK425.out 0; have hfz9_1 := blk_frozen BK425.out 1; have p426 : 0 ≤ (0 : Int) := (by omega); have q426 : 0 < (l0.length : Int) := of_decide_eq_true (by first | (with_reducible assumption) | assumption); obtain ⟨ad426, e426, hx426_0⟩ := Kd.at_int HR0.out 0 p426 q426; cases e426; have qi426 : (0 < l0.length) = True := eq_true (by omega); (try rw [show ((0 : Int)).toNat = 0 from rfl] at hx426_0); (try rw [Addr.add_zero'] at hx426_0); replace hx426_0 := (HB.out.cell (World.block_lt_of_cell? w _ hx426_0)).trans hx426_0; replace p426 := eq_true p426; replace q426 := eq_true q426; have p427 : 0 ≤ ((ji5) : Int) := of_decide_eq_true (by first | (with_reducible assumption) | assumption); have q427 : (ji5) < (l0.length : Int) := of_decide_eq_true (by first | (with_reducible assumption) | assumption); obtain ⟨ad427, e427, hx427_0⟩ := Kd.at_int HR0.out (ji5) p427 q427; obtain rfl : ad426 = ad427 := (by injection e427); replace hx427_0 := (HB.out.cell (World.block_lt_of_cell? w _ hx427_0)).trans hx427_0; replace p427 := eq_true p427; replace q427 := eq_true q427))
          repeat (go_quiet (first | ((with_reducible refine gate_dst (N := 3) rfl ?_); (try (refine gate_guard (by rfl) ?_; dsimp only)); refine box_event ?hg (N := 3) ?hd (cs := #[.int .i64 a1_0, .int .i64 a1_1]) (t := 27) ?hr ?_; (case hd => rfl); (case hg => rfl); (case hr => first | (go_simp; done) | (go_simp; rfl)); intro gb425 hg w8 hbox hb; have n0_ := Aside0.mk (below_step (bl_ HB.out) hb); have n1_ := Aside0.mk (hbox); have n2_ := Aside0.mk ((by rw [hg]; exact (below_size (bl_ HB.out)) : w.heap.size ≤ gb425)); have n3_ := Aside0.mk ((by rw [hg]; exact (below_size (bl_ HB.out)) : w.heap.size ≤ gb425)); clear HB; have HB := n0_; have BK425 := n1_; have GW425 := n2_; have GE425 := n3_; clear n0_ n1_ n2_ n3_; clear hb hbox hg; have hcz9_0 : w8.cell? ⟨gb425, 0, none⟩ = some (.int .i64 a1_0) := (blk_cell BK425.out 0).trans rfl; have hcz9_1 : w8.cell? ⟨gb425, 1, none⟩ = some (.int .i64 a1_1) := (blk_cell BK425.out 1).trans rfl; have hfz9_0 := blk_frozen BK425.out 0; have hfz9_1 := blk_frozen BK425.out 1; have p426 : 0 ≤ (0 : Int) := (by omega); have q426 : 0 < (l0.length : Int) := of_decide_eq_true (by first | (with_reducible assumption) | assumption); obtain ⟨ad426, e426, hx426_0⟩ := Kd.at_int HR0.out 0 p426 q426; cases e426; have qi426 : (0 < l0.length) = True := eq_true (by omega); (try rw [show ((0 : Int)).toNat = 0 from rfl] at hx426_0); (try rw [Addr.add_zero'] at hx426_0); replace hx426_0 := (HB.out.cell (World.block_lt_of_cell? w _ hx426_0)).trans hx426_0; replace p426 := eq_true p426; replace q426 := eq_true q426; have p427 : 0 ≤ ((ji5) : Int) := of_decide_eq_true (by first | (with_reducible assumption) | assumption); have q427 : (ji5) < (l0.length : Int) := of_decide_eq_true (by first | (with_reducible assumption) | assumption); obtain ⟨ad427, e427, hx427_0⟩ := Kd.at_int HR0.out (ji5) p427 q427; obtain rfl : ad426 = ad427 := (by injection e427); replace hx427_0 := (HB.out.cell (World.block_lt_of_cell? w _ hx427_0)).trans hx427_0; replace p427 := eq_true p427; replace q427 := eq_true q427)); try go_wp2_with (first | ((with_reducible refine gate_dst (N := 3) rfl ?_); (try (refine gate_guard (by rfl) ?_; dsimp only)); refine box_event ?hg (N := 3) ?hd (cs := #[.int .i64 a1_0, .int .i64 a1_1]) (t := 27) ?hr ?_; (case hd => rfl); (case hg => rfl); (case hr => first | (go_simp; done) | (go_simp; rfl)); intro gb425 hg w8 hbox hb; have n0_ := Aside0.mk (below_step (bl_ HB.out) hb); have n1_ := Aside0.mk (hbox); have n2_ := Aside0.mk ((by rw [hg]; exact (below_size (bl_ HB.out)) : w.heap.size ≤ gb425)); have n3_ := Aside0.mk ((by rw [hg]; exact (below_size (bl_ HB.out)) : w.heap.size ≤ gb425)); clear HB; have HB := n0_; have BK425 := n1_; have GW425 := n2_; have GE425 := n3_; clear n0_ n1_ n2_ n3_; clear hb hbox hg; have hcz9_0 : w8.cell? ⟨gb425, 0, none⟩ = some (.int .i64 a1_0) := (blk_cell BK425.out 0).trans rfl; have hcz9_1 : w8.cell? ⟨gb425, 1, none⟩ = some (.int .i64 a1_1) := (blk_cell BK425.out 1).trans rfl; have hfz9_0 := blk_frozen BK425.out 0; have hfz9_1 := blk_frozen BK425.out 1; have p426 : 0 ≤ (0 : Int) := (by omega); have q426 : 0 < (l0.length : Int) := of_decide_eq_true (by first | (with_reducible assumption) | assumption); obtain ⟨ad426, e426, hx426_0⟩ := Kd.at_int HR0.out 0 p426 q426; cases e426; have qi426 : (0 < l0.length) = True := eq_true (by omega); (try rw [show ((0 : Int)).toNat = 0 from rfl] at hx426_0); (try rw [Addr.add_zero'] at hx426_0); replace hx426_0 := (HB.out.cell (World.block_lt_of_cell? w _ hx426_0)).trans hx426_0; replace p426 := eq_true p426; replace q426 := eq_true q426; have p427 : 0 ≤ ((ji5) : Int) := of_decide_eq_true (by first | (with_reducible assumption) | assumption); have q427 : (ji5) < (l0.length : Int) := of_decide_eq_true (by first | (with_reducible assumption) | assumption); obtain ⟨ad427, e427, hx427_0⟩ := Kd.at_int HR0.out (ji5) p427 q427; obtain rfl : ad426 = ad427 := (by injection e427); replace hx427_0 := (HB.out.cell (World.block_lt_of_cell? w _ hx427_0)).trans hx427_0; replace p427 := eq_true p427; replace q427 := eq_true q427)))
          go_ret
          exact ⟨by first | rfl | (simp [errW_none, errW_some] <;> rfl) | (simp only [← hji5]; first | rfl | (simp [errW_none, errW_some] <;> rfl)) | (simp [*, errW_none, errW_some] <;> rfl), bl_ HB.out⟩
        · rw [if_neg c7] at H
          exact absurd H (by simp)
      · rw [if_neg c6] at H
        exact absurd H (by simp)
    · rw [if_neg c4] at H
      have c4b0 : decide ((rd l0 0) ≤ a1_0) = false := decide_eq_false c4
      clear c4
      obtain rfl := Option.some.inj H
      go_enter Try.func91, Try.ntmps91
      go_wp2_with (first | ((with_reducible refine gate_dst (N := 3) rfl ?_); (try (refine gate_guard (by rfl) ?_; dsimp only)); refine box_event ?hg (N := 3) ?hd (cs := #[.int .i64 a1_0, .int .i64 a1_1]) (t := 27) ?hr ?_; (case hd => rfl); (case hg => rfl); (case hr => first | (go_simp; done) | (go_simp; rfl)); intro gb425 hg w10 hbox hb; have n0_ := Aside0.mk (below_step (bl_ HB.out) hb); have n1_ := Aside0.mk (hbox); have n2_ := Aside0.mk ((by rw [hg]; exact (below_size (bl_ HB.out)) : w.heap.size ≤ gb425)); have n3_ := Aside0.mk ((by rw [hg]; exact (below_size (bl_ HB.out)) : w.heap.size ≤ gb425)); clear HB; have HB := n0_; have BK425 := n1_; have GW425 := n2_; have GE425 := n3_; clear n0_ n1_ n2_ n3_; clear hb hbox hg; have hcz11_0 : w10.cell? ⟨gb425, 0, none⟩ = some (.int .i64 a1_0) := (blk_cell BK425.out 0).trans rfl; have hcz11_1 : w10.cell? ⟨gb425, 1, none⟩ = some (.int .i64 a1_1) := (blk_cell BK425.out 1).trans rfl; have hfz11_0 := blk_frozen BK425.out 0; have hfz11_1 := blk_frozen BK425.out 1; have p426 : 0 ≤ (0 : Int) := (by omega); have q426 : 0 < (l0.length : Int) := of_decide_eq_true (by first | (with_reducible assumption) | assumption); obtain ⟨ad426, e426, hx426_0⟩ := Kd.at_int HR0.out 0 p426 q426; cases e426; have qi426 : (0 < l0.length) = True := eq_true (by omega); (try rw [show ((0 : Int)).toNat = 0 from rfl] at hx426_0); (try rw [Addr.add_zero'] at hx426_0); replace hx426_0 := (HB.out.cell (World.block_lt_of_cell? w _ hx426_0)).trans hx426_0; replace p426 := eq_true p426; replace q426 := eq_true q426))
      repeat (go_quiet (first | ((with_reducible refine gate_dst (N := 3) rfl ?_); (try (refine gate_guard (by rfl) ?_; dsimp only)); refine box_event ?hg (N := 3) ?hd (cs := #[.int .i64 a1_0, .int .i64 a1_1]) (t := 27) ?hr ?_; (case hd => rfl); (case hg => rfl); (case hr => first | (go_simp; done) | (go_simp; rfl)); intro gb425 hg w10 hbox hb; have n0_ := Aside0.mk (below_step (bl_ HB.out) hb); have n1_ := Aside0.mk (hbox); have n2_ := Aside0.mk ((by rw [hg]; exact (below_size (bl_ HB.out)) : w.heap.size ≤ gb425)); have n3_ := Aside0.mk ((by rw [hg]; exact (below_size (bl_ HB.out)) : w.heap.size ≤ gb425)); clear HB; have HB := n0_; have BK425 := n1_; have GW425 := n2_; have GE425 := n3_; clear n0_ n1_ n2_ n3_; clear hb hbox hg; have hcz11_0 : w10.cell? ⟨gb425, 0, none⟩ = some (.int .i64 a1_0) := (blk_cell BK425.out 0).trans rfl; have hcz11_1 : w10.cell? ⟨gb425, 1, none⟩ = some (.int .i64 a1_1) := (blk_cell BK425.out 1).trans rfl; have hfz11_0 := blk_frozen BK425.out 0; have hfz11_1 := blk_frozen BK425.out 1; have p426 : 0 ≤ (0 : Int) := (by omega); have q426 : 0 < (l0.length : Int) := of_decide_eq_true (by first | (with_reducible assumption) | assumption); obtain ⟨ad426, e426, hx426_0⟩ := Kd.at_int HR0.out 0 p426 q426; cases e426; have qi426 : (0 < l0.length) = True := eq_true (by omega); (try rw [show ((0 : Int)).toNat = 0 from rfl] at hx426_0); (try rw [Addr.add_zero'] at hx426_0); replace hx426_0 := (HB.out.cell (World.block_lt_of_cell? w _ hx426_0)).trans hx426_0; replace p426 := eq_true p426; replace q426 := eq_true q426)); try go_wp2_with (first | ((with_reducible refine gate_dst (N := 3) rfl ?_); (try (refine gate_guard (by rfl) ?_; dsimp only)); refine box_event ?hg (N := 3) ?hd (cs := #[.int .i64 a1_0, .int .i64 a1_1]) (t := 27) ?hr ?_; (case hd => rfl); (case hg => rfl); (case hr => first | (go_simp; done) | (go_simp; rfl)); intro gb425 hg w10 hbox hb; have n0_ := Aside0.mk (below_step (bl_ HB.out) hb); have n1_ := Aside0.mk (hbox); have n2_ := Aside0.mk ((by rw [hg]; exact (below_size (bl_ HB.out)) : w.heap.size ≤ gb425)); have n3_ := Aside0.mk ((by rw [hg]; exact (below_size (bl_ HB.out)) : w.heap.size ≤ gb425)); clear HB; have HB := n0_; have BK425 := n1_; have GW425 := n2_; have GE425 := n3_; clear n0_ n1_ n2_ n3_; clear hb hbox hg; have hcz11_0 : w10.cell? ⟨gb425, 0, none⟩ = some (.int .i64 a1_0) := (blk_cell BK425.out 0).trans rfl; have hcz11_1 : w10.cell? ⟨gb425, 1, none⟩ = some (.int .i64 a1_1) := (blk_cell BK425.out 1).trans rfl; have hfz11_0 := blk_frozen BK425.out 0; have hfz11_1 := blk_frozen BK425.out 1; have p426 : 0 ≤ (0 : Int) := (by omega); have q426 : 0 < (l0.length : Int) := of_decide_eq_true (by first | (with_reducible assumption) | assumption); obtain ⟨ad426, e426, hx426_0⟩ := Kd.at_int HR0.out 0 p426 q426; cases e426; have qi426 : (0 < l0.length) = True := eq_true (by omega); (try rw [show ((0 : Int)).toNat = 0 from rfl] at hx426_0); (try rw [Addr.add_zero'] at hx426_0); replace hx426_0 := (HB.out.cell (World.block_lt_of_cell? w _ hx426_0)).trans hx426_0; replace p426 := eq_true p426; replace q426 := eq_true q426)))
      go_ret
      exact ⟨by first | rfl | (simp [errW_none, errW_some] <;> rfl) | (simp [*, errW_none, errW_some] <;> rfl), bl_ HB.out⟩
  · rw [if_neg c3] at H
    exact absurd H (by simp)
end Go.Proofs.Yteodlmgmmpkpoaa.PS
end
section
namespace Go.Proofs.Yteodlmgmmpkpoaa.PS
open Go.RowKit Go.Proofs.YteodlmgmmpkpoaaW.PrintWords Go.Proofs.YteodlmgmmpkpoaaW.PrintLast Go.Proofs.YteodlmgmmpkpoaaW.PrintMore
set_option linter.unusedVariables false
theorem lies_total {l : List Int} (h : 2 ≤ l.length) (hl : l.length ≤ 15) (a b : Int) : spans_lies.f l a b = some (onB l a b) := by
  have e : wrap64 ((l.length : Int) - 1) = ((l.length - 1 : Nat) : Int) := by rw [wr64 (by omega) (by omega)]; omega
  have e0 : rd l 0 = gI l 0 := rd_nat l 0
  unfold spans_lies.f onB
  rw [if_pos (by omega), e0, e]
  by_cases h1 : a ≥ gI l 0
  · rw [if_pos h1, if_pos (by omega), if_pos (by omega), rd_nat, decide_eq_true (show gI l 0 ≤ a from h1), Bool.true_and]
  · rw [if_neg h1, decide_eq_false (show ¬ gI l 0 ≤ a from h1), Bool.false_and]
theorem between_total {l : List Int} (h : 2 ≤ l.length) (hl : l.length ≤ 15) (a b : Int) : swashplateref01_Between.f l a b = some (onB l a b) := by
  have e : wrap64 ((l.length : Int) - 1) = ((l.length - 1 : Nat) : Int) := by rw [wr64 (by omega) (by omega)]; omega
  have e0 : rd l 0 = gI l 0 := rd_nat l 0
  unfold swashplateref01_Between.f onB
  rw [if_pos (by omega), e0, e]
  by_cases h1 : a ≥ gI l 0
  · rw [if_pos h1, if_pos (by omega), if_pos (by omega), rd_nat, decide_eq_true (show gI l 0 ≤ a from h1), Bool.true_and]
  · rw [if_neg h1, decide_eq_false (show ¬ gI l 0 ≤ a from h1), Bool.false_and]
theorem tb_lens {X Y : List Int} {V : List (List Int)} (h : tableB X Y V = true) : (2 ≤ X.length ∧ X.length ≤ 12) ∧ (2 ≤ Y.length ∧ Y.length ≤ 12) := by
  unfold tableB axisB at h
  simp only [Bool.and_eq_true, decide_eq_true_eq] at h
  omega
section
variable {X Y : List Int} {V : List (List Int)} {a0 a1 b0 b1 : Int}
theorem good_at (t : tableB X Y V = true) {x y : Int} (hx : onB X x x = true) (hy : onB Y y y = true) : GoodP (ptAt X Y V x y) := good_pt (tb_of t) (cell_spot (tb_of t).ax hx) (cell_spot (tb_of t).ay hy)
theorem good_ref (t : tableB X Y V = true) {x y : Int} (hx : onB X x x = true) (hy : onB Y y y = true) : GoodP (ptRef X Y V x y) := good_pt (tb_of t) (part_spot (tb_of t).ax hx) (part_spot (tb_of t).ay hy)
theorem good_fl {p : Pt} (h : GoodP p) : spans_floor.f p.n p.d = some (flP p) := by
  obtain ⟨h1, h2, h3, h4⟩ := h
  exact floor_total _ _ h1 (by omega) (by omega)
theorem good_rfl {p : Pt} (h : GoodP p) : swashplateref01_floor.f p.n p.d = some (flP p) := by
  obtain ⟨h1, h2, h3, h4⟩ := h
  exact rfloor_total _ _ h1 (by omega) (by omega) (by omega)
theorem good_rce {p : Pt} (h : GoodP p) : swashplateref01_ceil.f p.n p.d = some (ceP p) := by
  obtain ⟨h1, h2, h3, h4⟩ := h
  exact rceil_total _ _ h1 (by omega) (by omega) (by omega)
end
theorem value_total {X Y : List Int} {V : List (List Int)} (ht : tableB X Y V = true) {x y : Int} (hx : onB X x x = true) (hy : onB Y y y = true) : swashplateref01_Value.f X Y V x y = some ((ptRef X Y V x y).n, (ptRef X Y V x y).d) := by
  unfold swashplateref01_Value.f
  rw [ht, hx, hy]; rfl
end Go.Proofs.Yteodlmgmmpkpoaa.PS
end
section
namespace Go.Proofs.Yteodlmgmmpkpoaa.PS
open Go.RowKit Go.Proofs.YteodlmgmmpkpoaaW.PrintWords Go.Proofs.YteodlmgmmpkpoaaW.PrintLast Go.Proofs.YteodlmgmmpkpoaaW.PrintMore
attribute [local go_sem] max2_int min2_int max_two min_two max_three min_three max_four min_four   -- for this text's walks alone
set_option linter.unusedVariables false
set_option linter.unusedSimpArgs false
def spans_At.j0 : Nat → Int → Int → Bool → List Int → List Int → List (List Int) → Option (Int × Int × Int)
  | 0, _, _, _, _, _, _ => none
  | k + 1, x1, x2, x31, x890000, x890001, x890002 => if x31 = true then (some (0, 0, 1)) else ((spans_at.f x890000 x890001 x890002 x1 x2).bind fun bt894 => ((spans_floor.f bt894.1 bt894.2).bind fun t897 => ((spans_ceil.f bt894.1 bt894.2).bind fun t898 => (some (t897, t898, 0)))))
def spans_At.f (k : Nat) (l0_0 : List Int) (l0_1 : List Int) (l0_2 : List (List Int)) (a1 : Int) (a2 : Int) : Option (Int × Int × Int) := (spans_CheckTable.f l0_0 l0_1 l0_2).bind fun t891 => (if t891 = 0 then ((spans_lies.f l0_0 a1 a1).bind fun t892 => (if t892 = true then ((spans_lies.f l0_1 a2 a2).bind fun t893 => (spans_At.j0 k a1 a2 (!t893) l0_0 l0_1 l0_2)) else (spans_At.j0 k a1 a2 true l0_0 l0_1 l0_2))) else (some (0, 0, t891)))
def spans_At.T7 : Bool × List (List Nat × List Nat) := (true, [([], []), ([0], [0]), ([], []), ([2], [2]), ([1, 3], [1, 3]), ([], []), ([5], [5]), ([], []), ([7], [7]), ([6, 8, 4], [6, 8]), ([4, 9], [4, 9]), ([10, 9, 0, 1, 2, 3, 4, 5, 6, 7, 8, 9, 10], [10]), ([11, 0, 1, 2, 3, 4, 5, 6, 7, 8, 9, 10, 11], [])])
def spans_At.B7 : List Nat := [0, 1, 0, 4, 15, 0, 32, 0, 128, 511, 1023, 2047, 4095]
theorem spans_At.tab7 : rtab .any (opsOf Try.f34 7) = spans_At.T7 := by kernel_rfl
theorem spans_At.bits7 : waitsOk spans_At.T7.2 spans_At.B7 = true := by kernel_rfl
set_option maxHeartbeats 8000000 in
set_option maxRecDepth 100000 in
theorem spans_At.calls (k : Nat) (A0_0 : Option Addr) (c0_0 : Nat) (l0_0 : List Int) (A0_1 : Option Addr) (c0_1 : Nat) (l0_1 : List Int) (A0_2 : Option Addr) (c0_2 : Nat) (l0_2 : List (List Int)) (a1 : Int) (a2 : Int) (r1 : Int) (r2 : Int) (r3 : Int) (w : World) (hr0_0 : Kd.C (Kd.int .i64) w A0_0 l0_0.length l0_0) (hc0_0 : l0_0.length ≤ c0_0) (hr0_1 : Kd.C (Kd.int .i64) w A0_1 l0_1.length l0_1) (hc0_1 : l0_1.length ≤ c0_1) (hr0_2 : Kd.C (Kd.slice 3 (Kd.int .i64)) w A0_2 l0_2.length l0_2) (hc0_2 : l0_2.length ≤ c0_2) (h : spans_At.f k l0_0 l0_1 l0_2 a1 a2 = some (r1, r2, r3)) :
    Calls Try.prog 34 #[.agg #[.slice A0_0 l0_0.length c0_0, .slice A0_1 l0_1.length c0_1, .slice A0_2 l0_2.length c0_2], .int .i64 a1, .int .i64 a2] w fun e w' => e = .returned (.tuple #[.agg #[.int .i64 r1, .int .i64 r2], .int .i64 r3]) ∧ Below w.heap.size w w' := by
  have hu25 := Try.underlying25
  have hu27 := Try.underlying27
  have hu131 := Try.underlying131
  have HR0_0 := Aside0.mk hr0_0
  have HC0_0 := Aside0.mk hc0_0
  clear hr0_0 hc0_0
  have HR0_1 := Aside0.mk hr0_1
  have HC0_1 := Aside0.mk hc0_1
  clear hr0_1 hc0_1
  have HR0_2 := Aside0.mk hr0_2
  have HC0_2 := Aside0.mk hc0_2
  clear hr0_2 hc0_2
  have HB := Aside0.mk (Below.refl w.heap.size w)
  have H : ((spans_CheckTable.f l0_0 l0_1 l0_2).bind fun t891 => (if t891 = 0 then ((spans_lies.f l0_0 a1 a1).bind fun t892 => (if t892 = true then ((spans_lies.f l0_1 a2 a2).bind fun t893 => (spans_At.j0 k a1 a2 (!t893) l0_0 l0_1 l0_2)) else (spans_At.j0 k a1 a2 true l0_0 l0_1 l0_2))) else (some (0, 0, t891)))) = some (r1, r2, r3) := h
  clear h
  replace H := Option.bind_eq_some_iff.mp H
  obtain ⟨t891, A40, H⟩ := H
  replace H : (if t891 = 0 then ((spans_lies.f l0_0 a1 a1).bind fun t892 => (if t892 = true then ((spans_lies.f l0_1 a2 a2).bind fun t893 => (spans_At.j0 k a1 a2 (!t893) l0_0 l0_1 l0_2)) else (spans_At.j0 k a1 a2 true l0_0 l0_1 l0_2))) else (some (0, 0, t891))) = some (r1, r2, r3) := H
  have A4 := Aside0.mk A40
  clear A40
  by_cases c5 : t891 = 0
  · rw [if_pos c5] at H
    have c5b0 : (t891 == 0) = true := beq_iff_eq.mpr c5
    have c5b1 : (t891 != 0) = false := bne_eq_false_iff_eq.mpr c5
    clear c5
    have HC6 := Aside0.mk H
    clear H
    go_enter Try.func34, Try.ntmps34
    go_upto_region 4 with (first | ((with_reducible refine gate_dst (N := 3) rfl ?_); refine box_event ?hg (N := 3) ?hd (cs := #[.slice A0_0 l0_0.length c0_0, .slice A0_1 l0_1.length c0_1, .slice A0_2 l0_2.length c0_2]) (t := 25) ?hr ?_; (case hd => rfl); (case hg => rfl); (case hr => first | (go_simp; done) | (go_simp; rfl)); intro gb889 hg w7 hbox hb; have n0_ := Aside0.mk (below_step (bl_ HB.out) hb); have n1_ := Aside0.mk (hbox); have n2_ := Aside0.mk ((by rw [hg]; exact (below_size (bl_ HB.out)) : w.heap.size ≤ gb889)); have n3_ := Aside0.mk ((by rw [hg]; exact (below_size (bl_ HB.out)) : w.heap.size ≤ gb889)); clear HB; have HB := n0_; have BK889 := n1_; have GW889 := n2_; have GE889 := n3_; clear n0_ n1_ n2_ n3_; clear hb hbox hg) | ((with_reducible refine gate_dst (N := 6) rfl ?_); refine box_event ?hg (N := 6) ?hd (cs := #[.int .i64 0, .int .i64 0]) (t := 27) ?hr ?_; (case hd => rfl); (case hg => rfl); (case hr => first | (go_simp; done) | (go_simp; rfl)); intro gb890 hg w8 hbox hb; have n0_ := Aside0.mk (blk_below (g := gb889) (o := .cells #[.slice A0_0 l0_0.length c0_0, .slice A0_1 l0_1.length c0_1, .slice A0_2 l0_2.length c0_2] 25 (0, 0)) (bk_ BK889.out) hb); have n1_ := Aside0.mk (below_step (bl_ HB.out) hb); have n2_ := Aside0.mk (hbox); have n3_ := Aside0.mk ((by rw [hg]; exact (below_size (bl_ HB.out)) : w.heap.size ≤ gb890)); have n4_ := Aside0.mk ((by rw [hg]; exact (below_size (bl_ HB.out)) : w.heap.size ≤ gb890)); have n5_ := Aside0.mk ((by rw [hg]; exact Nat.ne_of_lt (blk_lt (g := gb889) (o := .cells #[.slice A0_0 l0_0.length c0_0, .slice A0_1 l0_1.length c0_1, .slice A0_2 l0_2.length c0_2] 25 (0, 0)) (bk_ BK889.out)) : gb889 ≠ gb890)); have n6_ := Aside0.mk ((by rw [hg]; exact Nat.ne_of_gt (blk_lt (g := gb889) (o := .cells #[.slice A0_0 l0_0.length c0_0, .slice A0_1 l0_1.length c0_1, .slice A0_2 l0_2.length c0_2] 25 (0, 0)) (bk_ BK889.out)) : gb890 ≠ gb889)); clear BK889; clear HB; have BK889 := n0_; have HB := n1_; have BK890 := n2_; have GW890 := n3_; have GE890 := n4_; have NB889_890 := n5_; have NB890_889 := n6_; clear n0_ n1_ n2_ n3_ n4_ n5_ n6_; clear hb hbox hg; have hnb9 := NB889_890.out; have hnc9 := NB890_889.out; have hcz10_0 : w8.cell? ⟨gb889, 0, none⟩ = some (.slice A0_0 l0_0.length c0_0) := (blk_cell BK889.out 0).trans rfl; have hcz10_1 : w8.cell? ⟨gb889, 1, none⟩ = some (.slice A0_1 l0_1.length c0_1) := (blk_cell BK889.out 1).trans rfl; have hcz10_2 : w8.cell? ⟨gb889, 2, none⟩ = some (.slice A0_2 l0_2.length c0_2) := (blk_cell BK889.out 2).trans rfl; have hfz10_0 := blk_frozen BK889.out 0; have hfz10_1 := blk_frozen BK889.out 1; have hfz10_2 := blk_frozen BK889.out 2) | ((with_reducible refine gate_callee (f := 29) rfl ?_); refine goesL_ (some 11) rfl rfl Try.func29 (by kernel_rfl) rfl #[.agg #[.slice A0_0 l0_0.length c0_0, .slice A0_1 l0_1.length c0_1, .slice A0_2 l0_2.length c0_2]] rfl (by (try simp only [List.map_toArray, List.map_cons, List.map_nil]); first | done | rfl | (simp only [List.length_drop, List.length_take]; rfl)) ?_; (with_reducible refine (spans_CheckTable.calls _ _ l0_0 _ _ l0_1 _ _ l0_2 t891 _ ?side1 ?side2 ?side3 ?side4 ?side5 ?side6 A4.out).mono ?_); (case side1 => exact cr_ (Kd.C_below HR0_0.out HB.out)); (case side2 => exact HC0_0.out); (case side3 => exact cr_ (Kd.C_below HR0_1.out HB.out)); (case side4 => exact HC0_1.out); (case side5 => exact cr_ (Kd.C_below HR0_2.out HB.out)); (case side6 => exact HC0_2.out); rintro e w11 ⟨rfl, hb⟩; refine ⟨_, rfl, ?_⟩; have n0_ := Aside0.mk (blk_below (g := gb889) (o := .cells #[.slice A0_0 l0_0.length c0_0, .slice A0_1 l0_1.length c0_1, .slice A0_2 l0_2.length c0_2] 25 (0, 0)) (bk_ BK889.out) hb); have n1_ := Aside0.mk (blk_below (g := gb890) (o := .cells #[.int .i64 0, .int .i64 0] 27 (0, 0)) (bk_ BK890.out) hb); have n2_ := Aside0.mk (below_step (bl_ HB.out) hb); clear BK889; clear BK890; clear HB; have BK889 := n0_; have BK890 := n1_; have HB := n2_; clear n0_ n1_ n2_; (try clear hb); (try clear hb2); (try clear hk); (try clear hi)))
    (try simp only [Act.put, List.setIfInBounds_toArray, List.set_cons_zero, List.set_cons_succ])
    go_cut [31] (fun v31 wc => ∃ (kq : Nat) (x31_5 : Bool), v31 = .bool x31_5 ∧ Aside0 (spans_At.j0 kq a1 a2 x31_5 l0_0 l0_1 l0_2 = some (r1, r2, r3)) ∧ Aside0 (kq ≤ k) ∧ Aside0 (wc.heap[gb889]? = some (.cells #[(.slice A0_0 l0_0.length c0_0), (.slice A0_1 l0_1.length c0_1), (.slice A0_2 l0_2.length c0_2)] 25 (0, 0))) ∧ Aside0 (wc.heap[gb890]? = some (.cells #[.int .i64 0, .int .i64 0] 27 (0, 0))) ∧ Aside0 (Below w.heap.size w wc))
    case first =>
      have H := HC6.out
      clear HC6
      replace H := Option.bind_eq_some_iff.mp H
      obtain ⟨t892, A120, H⟩ := H
      replace H : (if t892 = true then ((spans_lies.f l0_1 a2 a2).bind fun t893 => (spans_At.j0 k a1 a2 (!t893) l0_0 l0_1 l0_2)) else (spans_At.j0 k a1 a2 true l0_0 l0_1 l0_2)) = some (r1, r2, r3) := H
      have A12 := Aside0.mk A120
      clear A120
      by_cases c13 : t892 = true
      · subst c13
        have H1 : ((spans_lies.f l0_1 a2 a2).bind fun t893 => (spans_At.j0 k a1 a2 (!t893) l0_0 l0_1 l0_2)) = some (r1, r2, r3) := by rw [if_pos rfl] at H; exact H
        clear H
        have H := H1
        clear H1
        replace H := Option.bind_eq_some_iff.mp H
        obtain ⟨t893, A140, H⟩ := H
        replace H : (spans_At.j0 k a1 a2 (!t893) l0_0 l0_1 l0_2) = some (r1, r2, r3) := H
        have A14 := Aside0.mk A140
        clear A140
        have H' := Aside0.mk H
        clear H
        have hnb15 := NB889_890.out
        have hnc15 := NB890_889.out
        have hcz16_0 : w11.cell? ⟨gb889, 0, none⟩ = some (.slice A0_0 l0_0.length c0_0) := (blk_cell BK889.out 0).trans rfl
        have hcz16_1 : w11.cell? ⟨gb889, 1, none⟩ = some (.slice A0_1 l0_1.length c0_1) := (blk_cell BK889.out 1).trans rfl
        have hcz16_2 : w11.cell? ⟨gb889, 2, none⟩ = some (.slice A0_2 l0_2.length c0_2) := (blk_cell BK889.out 2).trans rfl
        have hfz16_0 := blk_frozen BK889.out 0
        have hfz16_1 := blk_frozen BK889.out 1
        have hfz16_2 := blk_frozen BK889.out 2
        go_wp2_with (first | ((with_reducible refine gate_callee (f := 104) rfl ?_); refine goesL_ (some 21) rfl rfl Try.func104 (by kernel_rfl) rfl #[.slice A0_0 l0_0.length c0_0, .agg #[.int .i64 a1, .int .i64 a1]] rfl (by (try simp only [List.map_toArray, List.map_cons, List.map_nil]); first | done | rfl | (simp only [List.length_drop, List.length_take]; rfl)) ?_; (with_reducible refine (spans_lies.calls _ _ l0_0 a1 a1 true _ ?side1 ?side2 A12.out).mono ?_); (case side1 => exact cr_ (Kd.C_below HR0_0.out HB.out)); (case side2 => exact HC0_0.out); rintro e w17 ⟨rfl, hb⟩; refine ⟨_, rfl, ?_⟩; have n0_ := Aside0.mk (blk_below (g := gb889) (o := .cells #[.slice A0_0 l0_0.length c0_0, .slice A0_1 l0_1.length c0_1, .slice A0_2 l0_2.length c0_2] 25 (0, 0)) (bk_ BK889.out) hb); have n1_ := Aside0.mk (blk_below (g := gb890) (o := .cells #[.int .i64 0, .int .i64 0] 27 (0, 0)) (bk_ BK890.out) hb); have n2_ := Aside0.mk (below_step (bl_ HB.out) hb); clear BK889; clear BK890; clear HB; have BK889 := n0_; have BK890 := n1_; have HB := n2_; clear n0_ n1_ n2_; (try clear hb); (try clear hb2); (try clear hk); (try clear hi); have hcz18_0 : w17.cell? ⟨gb889, 0, none⟩ = some (.slice A0_0 l0_0.length c0_0) := (blk_cell BK889.out 0).trans rfl; have hcz18_1 : w17.cell? ⟨gb889, 1, none⟩ = some (.slice A0_1 l0_1.length c0_1) := (blk_cell BK889.out 1).trans rfl; have hcz18_2 : w17.cell? ⟨gb889, 2, none⟩ = some (.slice A0_2 l0_2.length c0_2) := (blk_cell BK889.out 2).trans rfl; have hfz18_0 := blk_frozen BK889.out 0; have hfz18_1 := blk_frozen BK889.out 1; have hfz18_2 := blk_frozen BK889.out 2) | (go_at_call 104; (with_reducible refine (spans_lies.calls _ _ l0_1 a2 a2 t893 _ ?side1 ?side2 A14.out).mono ?_); (case side1 => exact cr_ (Kd.C_below HR0_1.out HB.out)); (case side2 => exact HC0_1.out); rintro e w19 ⟨rfl, hb⟩; have n0_ := Aside0.mk (blk_below (g := gb889) (o := .cells #[.slice A0_0 l0_0.length c0_0, .slice A0_1 l0_1.length c0_1, .slice A0_2 l0_2.length c0_2] 25 (0, 0)) (bk_ BK889.out) hb); have n1_ := Aside0.mk (blk_below (g := gb890) (o := .cells #[.int .i64 0, .int .i64 0] 27 (0, 0)) (bk_ BK890.out) hb); have n2_ := Aside0.mk (below_step (bl_ HB.out) hb); clear BK889; clear BK890; clear HB; have BK889 := n0_; have BK890 := n1_; have HB := n2_; clear n0_ n1_ n2_; (try clear hb); (try clear hb2); (try clear hk); (try clear hi)))
        go_meet
        case rel => exact ⟨_, (!t893), (by first | rfl | (simp; done) | (simp [*]; done)), H', ⟨by first | omega | exact Nat.le_refl _⟩, ⟨bk_ BK889.out⟩, ⟨bk_ BK890.out⟩, ⟨bl_ HB.out⟩⟩
      · replace c13 := Bool.eq_false_iff.mpr c13
        subst c13
        have H1 : (spans_At.j0 k a1 a2 true l0_0 l0_1 l0_2) = some (r1, r2, r3) := by rw [if_neg (show ¬ (false = true) by decide)] at H; exact H
        clear H
        have H := H1
        clear H1
        have H' := Aside0.mk H
        clear H
        have hnb20 := NB889_890.out
        have hnc20 := NB890_889.out
        have hcz21_0 : w11.cell? ⟨gb889, 0, none⟩ = some (.slice A0_0 l0_0.length c0_0) := (blk_cell BK889.out 0).trans rfl
        have hcz21_1 : w11.cell? ⟨gb889, 1, none⟩ = some (.slice A0_1 l0_1.length c0_1) := (blk_cell BK889.out 1).trans rfl
        have hcz21_2 : w11.cell? ⟨gb889, 2, none⟩ = some (.slice A0_2 l0_2.length c0_2) := (blk_cell BK889.out 2).trans rfl
        have hfz21_0 := blk_frozen BK889.out 0
        have hfz21_1 := blk_frozen BK889.out 1
        have hfz21_2 := blk_frozen BK889.out 2
        go_wp2_with (first | ((with_reducible refine gate_callee (f := 104) rfl ?_); refine goesL_ (some 21) rfl rfl Try.func104 (by kernel_rfl) rfl #[.slice A0_0 l0_0.length c0_0, .agg #[.int .i64 a1, .int .i64 a1]] rfl (by (try simp only [List.map_toArray, List.map_cons, List.map_nil]); first | done | rfl | (simp only [List.length_drop, List.length_take]; rfl)) ?_; (with_reducible refine (spans_lies.calls _ _ l0_0 a1 a1 false _ ?side1 ?side2 A12.out).mono ?_); (case side1 => exact cr_ (Kd.C_below HR0_0.out HB.out)); (case side2 => exact HC0_0.out); rintro e w22 ⟨rfl, hb⟩; refine ⟨_, rfl, ?_⟩; have n0_ := Aside0.mk (blk_below (g := gb889) (o := .cells #[.slice A0_0 l0_0.length c0_0, .slice A0_1 l0_1.length c0_1, .slice A0_2 l0_2.length c0_2] 25 (0, 0)) (bk_ BK889.out) hb); have n1_ := Aside0.mk (blk_below (g := gb890) (o := .cells #[.int .i64 0, .int .i64 0] 27 (0, 0)) (bk_ BK890.out) hb); have n2_ := Aside0.mk (below_step (bl_ HB.out) hb); clear BK889; clear BK890; clear HB; have BK889 := n0_; have BK890 := n1_; have HB := n2_; clear n0_ n1_ n2_; (try clear hb); (try clear hb2); (try clear hk); (try clear hi)))
        go_meet
        case rel => exact ⟨_, (true), (by first | rfl | (simp; done) | (simp [*]; done)), H', ⟨by first | omega | exact Nat.le_refl _⟩, ⟨bk_ BK889.out⟩, ⟨bk_ BK890.out⟩, ⟨bl_ HB.out⟩⟩
    case rest =>
      clear HC6
      try clear c1
      try clear c2
      try clear p2
      try clear c3
      try clear c5
      try clear c5b0
      try clear c5b1
      try clear c9
      try clear c10
      try clear c13
      try clear c15
      try clear c20
      try clear hcz10_0
      try clear hcz10_1
      try clear hcz10_2
      try clear hcz16_0
      try clear hcz16_1
      try clear hcz16_2
      try clear hcz18_0
      try clear hcz18_1
      try clear hcz18_2
      try clear hcz21_0
      try clear hcz21_1
      try clear hcz21_2
      try clear hfz10_0
      try clear hfz10_1
      try clear hfz10_2
      try clear hfz16_0
      try clear hfz16_1
      try clear hfz16_2
      try clear hfz18_0
      try clear hfz18_1
      try clear hfz18_2
      try clear hfz21_0
      try clear hfz21_1
      try clear hfz21_2
      obtain ⟨kq, x31_5, rfl, HA, HJ5, BK889, BK890, HB⟩ := hcut
      cases kq with
      | zero => exact absurd HA.out (by simp [spans_At.j0])
      | succ kj5 =>
        have H := HA.out
        clear HA
        simp only [spans_At.j0] at H
        by_cases c23 : x31_5 = true
        · subst c23
          have H1 : (some (0, 0, 1)) = some (r1, r2, r3) := by rw [if_pos rfl] at H; exact H
          clear H
          have H := H1
          clear H1
          simp only [Option.some.injEq, Prod.mk.injEq] at H
          obtain ⟨rfl, rfl, rfl⟩ := H
          have hnb24 := NB890_889.out
          have hnc24 := NB889_890.out
          have hcz25_0 : wc.cell? ⟨gb890, 0, none⟩ = some (.int .i64 0) := (blk_cell BK890.out 0).trans rfl
          have hcz25_1 : wc.cell? ⟨gb890, 1, none⟩ = some (.int .i64 0) := (blk_cell BK890.out 1).trans rfl
          have hfz25_0 := blk_frozen BK890.out 0
          have hfz25_1 := blk_frozen BK890.out 1
          go_wp2
          refine bodyPost_ret (results_ct rfl _ _ gb890 27 #[.int .i64 0, .int .i64 0] (0, 0) _ rfl (by (with_reducible repeat (first | refine blk_drewN ?_ _ | refine blk_drew ?_ | refine blk_alloc ?_ _)); refine blk_put (cs := #[.int .i64 0, .int .i64 0]) ?_ 1 _ rfl; (with_reducible repeat (first | refine blk_drewN ?_ _ | refine blk_drew ?_ | refine blk_alloc ?_ _)); refine blk_put (cs := #[.int .i64 0, .int .i64 0]) ?_ 0 _ rfl; (with_reducible repeat (first | refine blk_drewN ?_ _ | refine blk_drew ?_ | refine blk_alloc ?_ _)); exact BK890.out) Try.underlying27 rfl (by kernel_rfl)) rfl ?_
          exact ⟨by first | rfl | (simp [errW_none, errW_some] <;> rfl) | (simp [*, errW_none, errW_some] <;> rfl), bl_ HB.out⟩
        · replace c23 := Bool.eq_false_iff.mpr c23
          subst c23
          have H1 : ((spans_at.f l0_0 l0_1 l0_2 a1 a2).bind fun bt894 => ((spans_floor.f bt894.1 bt894.2).bind fun t897 => ((spans_ceil.f bt894.1 bt894.2).bind fun t898 => (some (t897, t898, 0))))) = some (r1, r2, r3) := by rw [if_neg (show ¬ (false = true) by decide)] at H; exact H
          clear H
          have H := H1
          clear H1
          replace H := Option.bind_eq_some_iff.mp H
          obtain ⟨⟨t894, t895⟩, A260, H⟩ := H
          replace H : ((spans_floor.f t894 t895).bind fun t897 => ((spans_ceil.f t894 t895).bind fun t898 => (some (t897, t898, 0)))) = some (r1, r2, r3) := H
          have A26 := Aside0.mk A260
          clear A260
          replace H := Option.bind_eq_some_iff.mp H
          obtain ⟨t897, A270, H⟩ := H
          replace H : ((spans_ceil.f t894 t895).bind fun t898 => (some (t897, t898, 0))) = some (r1, r2, r3) := H
          have A27 := Aside0.mk A270
          clear A270
          replace H := Option.bind_eq_some_iff.mp H
          obtain ⟨t898, A280, H⟩ := H
          replace H : (some (t897, t898, 0)) = some (r1, r2, r3) := H
          have A28 := Aside0.mk A280
          clear A280
          simp only [Option.some.injEq, Prod.mk.injEq] at H
          obtain ⟨rfl, rfl, rfl⟩ := H
          have hnb29 := NB889_890.out
          have hnc29 := NB890_889.out
          have hcz30_0 : wc.cell? ⟨gb889, 0, none⟩ = some (.slice A0_0 l0_0.length c0_0) := (blk_cell BK889.out 0).trans rfl
          have hcz30_1 : wc.cell? ⟨gb889, 1, none⟩ = some (.slice A0_1 l0_1.length c0_1) := (blk_cell BK889.out 1).trans rfl
          have hcz30_2 : wc.cell? ⟨gb889, 2, none⟩ = some (.slice A0_2 l0_2.length c0_2) := (blk_cell BK889.out 2).trans rfl
          have hfz30_0 := blk_frozen BK889.out 0
          have hfz30_1 := blk_frozen BK889.out 1
          have hfz30_2 := blk_frozen BK889.out 2
          try go_wp2_with (first | ((with_reducible refine gate_callee (f := 105) rfl ?_); refine goesL_ (some 36) rfl rfl Try.func105 (by kernel_rfl) rfl #[.agg #[.slice A0_0 l0_0.length c0_0, .slice A0_1 l0_1.length c0_1, .slice A0_2 l0_2.length c0_2], .int .i64 a1, .int .i64 a2] rfl (by (try simp only [List.map_toArray, List.map_cons, List.map_nil]); first | done | rfl | (simp only [List.length_drop, List.length_take]; rfl)) ?_; (with_reducible refine (spans_at.calls _ _ l0_0 _ _ l0_1 _ _ l0_2 a1 a2 t894 t895 _ ?side1 ?side2 ?side3 ?side4 ?side5 ?side6 A26.out).mono ?_); (case side1 => exact cr_ (Kd.C_below HR0_0.out HB.out)); (case side2 => exact HC0_0.out); (case side3 => exact cr_ (Kd.C_below HR0_1.out HB.out)); (case side4 => exact HC0_1.out); (case side5 => exact cr_ (Kd.C_below HR0_2.out HB.out)); (case side6 => exact HC0_2.out); rintro e w31 ⟨rfl, hb⟩; refine ⟨_, rfl, ?_⟩; have n0_ := Aside0.mk (blk_below (g := gb889) (o := .cells #[.slice A0_0 l0_0.length c0_0, .slice A0_1 l0_1.length c0_1, .slice A0_2 l0_2.length c0_2] 25 (0, 0)) (bk_ BK889.out) hb); have n1_ := Aside0.mk (blk_below (g := gb890) (o := .cells #[.int .i64 0, .int .i64 0] 27 (0, 0)) (bk_ BK890.out) hb); have n2_ := Aside0.mk (below_step (bl_ HB.out) hb); clear BK889; clear BK890; clear HB; have BK889 := n0_; have BK890 := n1_; have HB := n2_; clear n0_ n1_ n2_; (try clear hb); (try clear hb2); (try clear hk); (try clear hi)) | ((with_reducible refine gate_dst (N := 9) rfl ?_); refine box_event ?hg (N := 9) ?hd (cs := #[.int .i64 0, .int .i64 0]) (t := 131) ?hr ?_; (case hd => rfl); (case hg => rfl); (case hr => first | (go_simp; done) | (go_simp; rfl)); intro gb896 hg w32 hbox hb; have n0_ := Aside0.mk (blk_below (g := gb889) (o := .cells #[.slice A0_0 l0_0.length c0_0, .slice A0_1 l0_1.length c0_1, .slice A0_2 l0_2.length c0_2] 25 (0, 0)) (bk_ BK889.out) hb); have n1_ := Aside0.mk (blk_below (g := gb890) (o := .cells #[.int .i64 0, .int .i64 0] 27 (0, 0)) (bk_ BK890.out) hb); have n2_ := Aside0.mk (below_step (bl_ HB.out) hb); have n3_ := Aside0.mk (hbox); have n4_ := Aside0.mk ((by rw [hg]; exact (below_size (bl_ HB.out)) : w.heap.size ≤ gb896)); have n5_ := Aside0.mk ((by rw [hg]; exact (below_size (bl_ HB.out)) : w.heap.size ≤ gb896)); have n6_ := Aside0.mk ((by rw [hg]; exact Nat.ne_of_lt (blk_lt (g := gb889) (o := .cells #[.slice A0_0 l0_0.length c0_0, .slice A0_1 l0_1.length c0_1, .slice A0_2 l0_2.length c0_2] 25 (0, 0)) (bk_ BK889.out)) : gb889 ≠ gb896)); have n7_ := Aside0.mk ((by rw [hg]; exact Nat.ne_of_gt (blk_lt (g := gb889) (o := .cells #[.slice A0_0 l0_0.length c0_0, .slice A0_1 l0_1.length c0_1, .slice A0_2 l0_2.length c0_2] 25 (0, 0)) (bk_ BK889.out)) : gb896 ≠ gb889)); have n8_ := Aside0.mk ((by rw [hg]; exact Nat.ne_of_lt (blk_lt (g := gb890) (o := .cells #[.int .i64 0, .int .i64 0] 27 (0, 0)) (bk_ BK890.out)) : gb890 ≠ gb896)); have n9_ := Aside0.mk ((by rw [hg]; exact Nat.ne_of_gt (blk_lt (g := gb890) (o := .cells #[.int .i64 0, .int .i64 0] 27 (0, 0)) (bk_ BK890.out)) : gb896 ≠ gb890)); clear BK889; clear BK890; clear HB; have BK889 := n0_; have BK890 := n1_; have HB := n2_; have BK896 := n3_; have GW896 := n4_; have GE896 := n5_; have NB889_896 := n6_; have NB896_889 := n7_; have NB890_896 := n8_; have NB896_890 := n9_; clear n0_ n1_ n2_ n3_ n4_ n5_ n6_ n7_ n8_ n9_; clear hb hbox hg; have hnb33 := NB896_889.out; have hnc33 := NB889_896.out; have hnb34 := NB896_890.out; have hnc34 := NB890_896.out; have hcz35_0 : w32.cell? ⟨gb896, 0, none⟩ = some (.int .i64 0) := (blk_cell BK896.out 0).trans rfl; have hcz35_1 : w32.cell? ⟨gb896, 1, none⟩ = some (.int .i64 0) := (blk_cell BK896.out 1).trans rfl; have hfz35_0 := blk_frozen BK896.out 0; have hfz35_1 := blk_frozen BK896.out 1))
          have n0_ : Aside0 (((w32.setCell ⟨gb896, 0, none⟩ (.int .i64 t894)).setCell ⟨gb896, 1, none⟩ (.int .i64 t895)).heap[gb889]? = some (.cells #[.slice A0_0 l0_0.length c0_0, .slice A0_1 l0_1.length c0_1, .slice A0_2 l0_2.length c0_2] 25 (0, 0))) := ⟨by (with_reducible repeat (first | refine blk_drewN ?_ _ | refine blk_drew ?_ | refine blk_alloc ?_ _)); refine blk_far ?_ NB889_896.out _; (with_reducible repeat (first | refine blk_drewN ?_ _ | refine blk_drew ?_ | refine blk_alloc ?_ _)); refine blk_far ?_ NB889_896.out _; (with_reducible repeat (first | refine blk_drewN ?_ _ | refine blk_drew ?_ | refine blk_alloc ?_ _)); exact BK889.out⟩
          have n1_ : Aside0 (((w32.setCell ⟨gb896, 0, none⟩ (.int .i64 t894)).setCell ⟨gb896, 1, none⟩ (.int .i64 t895)).heap[gb890]? = some (.cells #[.int .i64 0, .int .i64 0] 27 (0, 0))) := ⟨by (with_reducible repeat (first | refine blk_drewN ?_ _ | refine blk_drew ?_ | refine blk_alloc ?_ _)); refine blk_far ?_ NB890_896.out _; (with_reducible repeat (first | refine blk_drewN ?_ _ | refine blk_drew ?_ | refine blk_alloc ?_ _)); refine blk_far ?_ NB890_896.out _; (with_reducible repeat (first | refine blk_drewN ?_ _ | refine blk_drew ?_ | refine blk_alloc ?_ _)); exact BK890.out⟩
          have n2_ : Aside0 (((w32.setCell ⟨gb896, 0, none⟩ (.int .i64 t894)).setCell ⟨gb896, 1, none⟩ (.int .i64 t895)).heap[gb896]? = some (.cells #[.int .i64 t894, .int .i64 t895] 131 (0, 0))) := ⟨by (with_reducible repeat (first | refine blk_drewN ?_ _ | refine blk_drew ?_ | refine blk_alloc ?_ _)); refine blk_put (cs := #[.int .i64 t894, .int .i64 0]) ?_ 1 _ rfl; (with_reducible repeat (first | refine blk_drewN ?_ _ | refine blk_drew ?_ | refine blk_alloc ?_ _)); refine blk_put (cs := #[.int .i64 0, .int .i64 0]) ?_ 0 _ rfl; (with_reducible repeat (first | refine blk_drewN ?_ _ | refine blk_drew ?_ | refine blk_alloc ?_ _)); exact BK896.out⟩
          have n3_ : Aside0 (Below w.heap.size w ((w32.setCell ⟨gb896, 0, none⟩ (.int .i64 t894)).setCell ⟨gb896, 1, none⟩ (.int .i64 t895))) := ⟨bl_ HB.out⟩
          (try clear BK889)
          (try clear BK890)
          (try clear BK896)
          (try clear HB)
          generalize ((w32.setCell ⟨gb896, 0, none⟩ (.int .i64 t894)).setCell ⟨gb896, 1, none⟩ (.int .i64 t895)) = w36 at n0_ n1_ n2_ n3_ ⊢
          have BK889 := n0_
          have BK890 := n1_
          have BK896 := n2_
          have HB := n3_
          clear n0_ n1_ n2_ n3_
          have n0_ := Aside0.mk (blk_drew BK889.out)
          have n1_ := Aside0.mk (blk_drew BK890.out)
          have n2_ := Aside0.mk (blk_drew BK896.out)
          have n3_ := Aside0.mk (below_drew1 HB.out)
          clear BK889
          clear BK890
          clear BK896
          clear HB
          have BK889 := n0_
          have BK890 := n1_
          have BK896 := n2_
          have HB := n3_
          clear n0_ n1_ n2_ n3_
          refine start_ (n := 13) (S := fun w' => w'.cell? ⟨gb896, 0, none⟩ = some (.int .i64 t894) ∧ w'.cell? ⟨gb896, 1, none⟩ = some (.int .i64 t895)) (ds := []) #[false, false, false, false, false, false, false, false, false, false, false, false, false] (by kernel_rfl) rfl rfl ⟨(blk_cell BK896.out 0).trans rfl, (blk_cell BK896.out 1).trans rfl⟩ (fun hHeld => ?_); refine with_tabW spans_At.tab7 spans_At.bits7 (fun HT_ HW_ => ?_)
          generalize w36.drew = w37 at BK889 BK890 BK896 HB hHeld ⊢
          refine pure_ (i := 0) (N := some 37) (v := ?_) (a' := ?_) #[true, false, false, false, false, false, false, false, false, false, false, false, false] rfl rfl (any_of HT_.out (by kernel_rfl)) (fun _ _ _ h => h) (Or.inl ⟨by rfl, ?_⟩) ?_ ?_
          rotate_left
          · intro w'
            go_simp
            with_reducible rfl
          rotate_left
          · simp only [Act.put, List.setIfInBounds_toArray, List.set_cons_zero, List.set_cons_succ, i64_w, i32_w]
            rfl
          refine pure_ (i := 2) (N := some 39) (v := ?_) (a' := ?_) #[true, false, true, false, false, false, false, false, false, false, false, false, false] rfl rfl (any_of HT_.out (by kernel_rfl)) (fun _ _ _ h => h) (Or.inl ⟨by rfl, ?_⟩) ?_ ?_
          rotate_left
          · intro w'
            go_simp
            with_reducible rfl
          rotate_left
          · simp only [Act.put, List.setIfInBounds_toArray, List.set_cons_zero, List.set_cons_succ, i64_w, i32_w]
            rfl
          refine pure_ (i := 5) (N := some 42) (v := ?_) (a' := ?_) #[true, false, true, false, false, true, false, false, false, false, false, false, false] rfl rfl (any_of HT_.out (by kernel_rfl)) (fun _ _ _ h => h) (Or.inl ⟨by rfl, ?_⟩) ?_ ?_
          rotate_left
          · intro w'
            go_simp
            with_reducible rfl
          rotate_left
          · simp only [Act.put, List.setIfInBounds_toArray, List.set_cons_zero, List.set_cons_succ, i64_w, i32_w]
            rfl
          refine pure_ (i := 7) (N := some 44) (v := ?_) (a' := ?_) #[true, false, true, false, false, true, false, true, false, false, false, false, false] rfl rfl (any_of HT_.out (by kernel_rfl)) (fun _ _ _ h => h) (Or.inl ⟨by rfl, ?_⟩) ?_ ?_
          rotate_left
          · intro w'
            go_simp
            with_reducible rfl
          rotate_left
          · simp only [Act.put, List.setIfInBounds_toArray, List.set_cons_zero, List.set_cons_succ, i64_w, i32_w]
            rfl
          refine take_ (i := 1) (N := some 38) (v := ?_) (a' := ?_) #[true, true, true, false, false, true, false, true, false, false, false, false, false] rfl rfl (take_ofW HT_.out HW_.out (by kernel_rfl)) (fun _ _ _ h => h) (Or.inl ⟨by rfl, ?_⟩) hHeld ?_ ?_
          rotate_left
          · rintro w' ⟨s0, s1⟩
            go_simp
            with_reducible rfl
          rotate_left
          · simp only [Act.put, List.setIfInBounds_toArray, List.set_cons_zero, List.set_cons_succ, i64_w, i32_w]
            rfl
          refine take_ (i := 3) (N := some 40) (v := ?_) (a' := ?_) #[true, true, true, true, false, true, false, true, false, false, false, false, false] rfl rfl (take_ofW HT_.out HW_.out (by kernel_rfl)) (fun _ _ _ h => h) (Or.inl ⟨by rfl, ?_⟩) hHeld ?_ ?_
          rotate_left
          · rintro w' ⟨s0, s1⟩
            go_simp
            with_reducible rfl
          rotate_left
          · simp only [Act.put, List.setIfInBounds_toArray, List.set_cons_zero, List.set_cons_succ, i64_w, i32_w]
            rfl
          refine take_ (i := 6) (N := some 43) (v := ?_) (a' := ?_) #[true, true, true, true, false, true, true, true, false, false, false, false, false] rfl rfl (take_ofW HT_.out HW_.out (by kernel_rfl)) (fun _ _ _ h => h) (Or.inl ⟨by rfl, ?_⟩) hHeld ?_ ?_
          rotate_left
          · rintro w' ⟨s0, s1⟩
            go_simp
            with_reducible rfl
          rotate_left
          · simp only [Act.put, List.setIfInBounds_toArray, List.set_cons_zero, List.set_cons_succ, i64_w, i32_w]
            rfl
          refine take_ (i := 8) (N := some 45) (v := ?_) (a' := ?_) #[true, true, true, true, false, true, true, true, true, false, false, false, false] rfl rfl (take_ofW HT_.out HW_.out (by kernel_rfl)) (fun _ _ _ h => h) (Or.inl ⟨by rfl, ?_⟩) hHeld ?_ ?_
          rotate_left
          · rintro w' ⟨s0, s1⟩
            go_simp
            with_reducible rfl
          rotate_left
          · simp only [Act.put, List.setIfInBounds_toArray, List.set_cons_zero, List.set_cons_succ, i64_w, i32_w]
            rfl
          refine one_ (i := 4) (N := some 41) #[true, true, true, true, true, true, true, true, true, false, false, false, false] rfl rfl (one_of HT_.out (by kernel_rfl)) (by decide) (fun K hK => ?_)
          refine goes_ Try.func100 (by kernel_rfl) rfl #[.int .i64 t894, .int .i64 t895] (by rfl) rfl rfl (by (try simp only [List.map_toArray, List.map_cons, List.map_nil]); first | done | rfl | (simp only [List.length_drop, List.length_take]; rfl)) ?_
          with_reducible refine (spans_floor.calls t894 t895 t897 _ A27.out).mono ?_
          rintro e w' ⟨rfl, ⟨nd, rfl⟩⟩
          refine ⟨_, rfl, ?_⟩
          refine hK.out _ _ ⟨(blk_cell BK896.out 0).trans rfl, (blk_cell BK896.out 1).trans rfl⟩ (fun hHeld => ?_)
          clear hK K
          refine norm_ (a' := ?_) ?_ ?_
          rotate_left
          · show Act.put _ (some 41) _ = _
            simp only [Act.put, List.setIfInBounds_toArray, List.set_cons_zero, List.set_cons_succ, i64_w, i32_w]
            rfl
          refine one_ (i := 9) (N := some 46) #[true, true, true, true, true, true, true, true, true, true, false, false, false] rfl rfl (one_of HT_.out (by kernel_rfl)) (by decide) (fun K hK => ?_)
          refine goes_ Try.func106 (by kernel_rfl) rfl #[.int .i64 t894, .int .i64 t895] (by rfl) rfl rfl (by (try simp only [List.map_toArray, List.map_cons, List.map_nil]); first | done | rfl | (simp only [List.length_drop, List.length_take]; rfl)) ?_
          with_reducible refine (spans_ceil.calls t894 t895 t898 _ A28.out).mono ?_
          rintro e w' ⟨rfl, ⟨nd, rfl⟩⟩
          refine ⟨_, rfl, ?_⟩
          refine hK.out _ _ ⟨(blk_cell BK896.out 0).trans rfl, (blk_cell BK896.out 1).trans rfl⟩ (fun hHeld => ?_)
          clear hK K
          refine norm_ (a' := ?_) ?_ ?_
          rotate_left
          · show Act.put _ (some 46) _ = _
            simp only [Act.put, List.setIfInBounds_toArray, List.set_cons_zero, List.set_cons_succ, i64_w, i32_w]
            rfl
          refine pure_ (i := 10) (N := some 47) (v := ?_) (a' := ?_) #[true, true, true, true, true, true, true, true, true, true, true, false, false] rfl rfl (any_of HT_.out (by kernel_rfl)) (fun _ _ _ h => h) (Or.inl ⟨by rfl, ?_⟩) ?_ ?_
          rotate_left
          · intro w'
            go_simp
            with_reducible rfl
          rotate_left
          · simp only [Act.put, List.setIfInBounds_toArray, List.set_cons_zero, List.set_cons_succ, i64_w, i32_w]
            rfl
          refine one_ (i := 11) (N := none) #[true, true, true, true, true, true, true, true, true, true, true, true, false] rfl rfl (one_of HT_.out (by kernel_rfl)) (by decide) (fun K hK => ?_)
          have hs38 : w37.cell? ⟨gb890, 0, none⟩ = some (.int .i64 0) := (blk_cell BK890.out 0).trans rfl
          have hfs38 := blk_frozen BK890.out 0
          have hns38_0 := NB889_890.out
          have hns38_2 := NB896_890.out
          have hms38_0 := NB890_889.out
          have hms38_2 := NB890_896.out
          have hs39 : w37.cell? ⟨gb890, 1, none⟩ = some (.int .i64 0) := (blk_cell BK890.out 1).trans rfl
          have hfs39 := blk_frozen BK890.out 1
          have hns39_0 := NB889_890.out
          have hns39_2 := NB896_890.out
          have hms39_0 := NB890_889.out
          have hms39_2 := NB890_896.out
          refine skip_ (w1 := ?_) (by rfl) rfl ?_ ?_
          rotate_left
          · go_simp
            rfl
          refine hK.out _ _ ⟨((cell_far (p := ⟨gb890, _, none⟩) NB896_890.out _).trans (((cell_far (p := ⟨gb890, _, none⟩) NB896_890.out _).trans (hHeld.1)))), ((cell_far (p := ⟨gb890, _, none⟩) NB896_890.out _).trans (((cell_far (p := ⟨gb890, _, none⟩) NB896_890.out _).trans (hHeld.2))))⟩ (fun hHeld => ?_)
          clear hK K
          refine pure_ (i := 12) (N := some 7) (v := ?_) (a' := ?_) #[true, true, true, true, true, true, true, true, true, true, true, true, true] rfl rfl (any_of HT_.out (by kernel_rfl)) (fun _ _ _ h => h) (Or.inl ⟨by rfl, ?_⟩) ?_ ?_
          rotate_left
          · intro w'
            go_simp
            with_reducible rfl
          rotate_left
          · simp only [Act.put, List.setIfInBounds_toArray, List.set_cons_zero, List.set_cons_succ, i64_w, i32_w]
            rfl
          refine done_ (done_of HT_.out (by kernel_rfl)) ?_
          try go_wp2
          refine bodyPost_ret (results_ct rfl _ _ gb890 27 #[.int .i64 t897, .int .i64 t898] (0, 0) _ rfl (by (with_reducible repeat (first | refine blk_drewN ?_ _ | refine blk_drew ?_ | refine blk_alloc ?_ _)); refine blk_put (cs := #[.int .i64 t897, .int .i64 0]) ?_ 1 _ rfl; (with_reducible repeat (first | refine blk_drewN ?_ _ | refine blk_drew ?_ | refine blk_alloc ?_ _)); refine blk_put (cs := #[.int .i64 0, .int .i64 0]) ?_ 0 _ rfl; (with_reducible repeat (first | refine blk_drewN ?_ _ | refine blk_drew ?_ | refine blk_alloc ?_ _)); exact BK890.out) Try.underlying27 rfl (by kernel_rfl)) rfl ?_
          exact ⟨by first | rfl | (simp [errW_none, errW_some] <;> rfl) | (simp [*, errW_none, errW_some] <;> rfl), bl_ HB.out⟩
  · rw [if_neg c5] at H
    have c5b0 : (t891 == 0) = false := beq_eq_false_iff_ne.mpr c5
    have c5b1 : (t891 != 0) = true := bne_iff_ne.mpr c5
    simp only [Option.some.injEq, Prod.mk.injEq] at H
    obtain ⟨rfl, rfl, rfl⟩ := H
    go_enter Try.func34, Try.ntmps34
    go_wp2_with (first | ((with_reducible refine gate_dst (N := 3) rfl ?_); refine box_event ?hg (N := 3) ?hd (cs := #[.slice A0_0 l0_0.length c0_0, .slice A0_1 l0_1.length c0_1, .slice A0_2 l0_2.length c0_2]) (t := 25) ?hr ?_; (case hd => rfl); (case hg => rfl); (case hr => first | (go_simp; done) | (go_simp; rfl)); intro gb889 hg w40 hbox hb; have n0_ := Aside0.mk (below_step (bl_ HB.out) hb); have n1_ := Aside0.mk (hbox); have n2_ := Aside0.mk ((by rw [hg]; exact (below_size (bl_ HB.out)) : w.heap.size ≤ gb889)); have n3_ := Aside0.mk ((by rw [hg]; exact (below_size (bl_ HB.out)) : w.heap.size ≤ gb889)); clear HB; have HB := n0_; have BK889 := n1_; have GW889 := n2_; have GE889 := n3_; clear n0_ n1_ n2_ n3_; clear hb hbox hg) | ((with_reducible refine gate_dst (N := 6) rfl ?_); refine box_event ?hg (N := 6) ?hd (cs := #[.int .i64 0, .int .i64 0]) (t := 27) ?hr ?_; (case hd => rfl); (case hg => rfl); (case hr => first | (go_simp; done) | (go_simp; rfl)); intro gb890 hg w41 hbox hb; have n0_ := Aside0.mk (blk_below (g := gb889) (o := .cells #[.slice A0_0 l0_0.length c0_0, .slice A0_1 l0_1.length c0_1, .slice A0_2 l0_2.length c0_2] 25 (0, 0)) (bk_ BK889.out) hb); have n1_ := Aside0.mk (below_step (bl_ HB.out) hb); have n2_ := Aside0.mk (hbox); have n3_ := Aside0.mk ((by rw [hg]; exact (below_size (bl_ HB.out)) : w.heap.size ≤ gb890)); have n4_ := Aside0.mk ((by rw [hg]; exact (below_size (bl_ HB.out)) : w.heap.size ≤ gb890)); have n5_ := Aside0.mk ((by rw [hg]; exact Nat.ne_of_lt (blk_lt (g := gb889) (o := .cells #[.slice A0_0 l0_0.length c0_0, .slice A0_1 l0_1.length c0_1, .slice A0_2 l0_2.length c0_2] 25 (0, 0)) (bk_ BK889.out)) : gb889 ≠ gb890)); have n6_ := Aside0.mk ((by rw [hg]; exact Nat.ne_of_gt (blk_lt (g := gb889) (o := .cells #[.slice A0_0 l0_0.length c0_0, .slice A0_1 l0_1.length c0_1, .slice A0_2 l0_2.length c0_2] 25 (0, 0)) (bk_ BK889.out)) : gb890 ≠ gb889)); clear BK889; clear HB; have BK889 := n0_; have HB := n1_; have BK890 := n2_; have GW890 := n3_; have GE890 := n4_; have NB889_890 := n5_; have NB890_889 := n6_; clear n0_ n1_ n2_ n3_ n4_ n5_ n6_; clear hb hbox hg; have hnb42 := NB889_890.out; have hnc42 := NB890_889.out; have hcz43_0 : w41.cell? ⟨gb889, 0, none⟩ = some (.slice A0_0 l0_0.length c0_0) := (blk_cell BK889.out 0).trans rfl; have hcz43_1 : w41.cell? ⟨gb889, 1, none⟩ = some (.slice A0_1 l0_1.length c0_1) := (blk_cell BK889.out 1).trans rfl; have hcz43_2 : w41.cell? ⟨gb889, 2, none⟩ = some (.slice A0_2 l0_2.length c0_2) := (blk_cell BK889.out 2).trans rfl; have hfz43_0 := blk_frozen BK889.out 0; have hfz43_1 := blk_frozen BK889.out 1; have hfz43_2 := blk_frozen BK889.out 2) | ((with_reducible refine gate_callee (f := 29) rfl ?_); refine goesL_ (some 11) rfl rfl Try.func29 (by kernel_rfl) rfl #[.agg #[.slice A0_0 l0_0.length c0_0, .slice A0_1 l0_1.length c0_1, .slice A0_2 l0_2.length c0_2]] rfl (by (try simp only [List.map_toArray, List.map_cons, List.map_nil]); first | done | rfl | (simp only [List.length_drop, List.length_take]; rfl)) ?_; (with_reducible refine (spans_CheckTable.calls _ _ l0_0 _ _ l0_1 _ _ l0_2 t891 _ ?side1 ?side2 ?side3 ?side4 ?side5 ?side6 A4.out).mono ?_); (case side1 => exact cr_ (Kd.C_below HR0_0.out HB.out)); (case side2 => exact HC0_0.out); (case side3 => exact cr_ (Kd.C_below HR0_1.out HB.out)); (case side4 => exact HC0_1.out); (case side5 => exact cr_ (Kd.C_below HR0_2.out HB.out)); (case side6 => exact HC0_2.out); rintro e w44 ⟨rfl, hb⟩; refine ⟨_, rfl, ?_⟩; have n0_ := Aside0.mk (blk_below (g := gb889) (o := .cells #[.slice A0_0 l0_0.length c0_0, .slice A0_1 l0_1.length c0_1, .slice A0_2 l0_2.length c0_2] 25 (0, 0)) (bk_ BK889.out) hb); have n1_ := Aside0.mk (blk_below (g := gb890) (o := .cells #[.int .i64 0, .int .i64 0] 27 (0, 0)) (bk_ BK890.out) hb); have n2_ := Aside0.mk (below_step (bl_ HB.out) hb); clear BK889; clear BK890; clear HB; have BK889 := n0_; have BK890 := n1_; have HB := n2_; clear n0_ n1_ n2_; (try clear hb); (try clear hb2); (try clear hk); (try clear hi); have hcz45_0 : w44.cell? ⟨gb890, 0, none⟩ = some (.int .i64 0) := (blk_cell BK890.out 0).trans rfl; have hcz45_1 : w44.cell? ⟨gb890, 1, none⟩ = some (.int .i64 0) := (blk_cell BK890.out 1).trans rfl; have hfz45_0 := blk_frozen BK890.out 0; have hfz45_1 := blk_frozen BK890.out 1))
    refine bodyPost_ret (results_ct rfl _ _ gb890 27 #[.int .i64 0, .int .i64 0] (0, 0) _ rfl (by (with_reducible repeat (first | refine blk_drewN ?_ _ | refine blk_drew ?_ | refine blk_alloc ?_ _)); refine blk_put (cs := #[.int .i64 0, .int .i64 0]) ?_ 1 _ rfl; (with_reducible repeat (first | refine blk_drewN ?_ _ | refine blk_drew ?_ | refine blk_alloc ?_ _)); refine blk_put (cs := #[.int .i64 0, .int .i64 0]) ?_ 0 _ rfl; (with_reducible repeat (first | refine blk_drewN ?_ _ | refine blk_drew ?_ | refine blk_alloc ?_ _)); exact BK890.out) Try.underlying27 rfl (by kernel_rfl)) rfl ?_
    exact ⟨by first | rfl | (simp [errW_none, errW_some] <;> rfl) | (simp [*, errW_none, errW_some] <;> rfl), bl_ HB.out⟩
end Go.Proofs.Yteodlmgmmpkpoaa.PS
end
section
namespace Go.Proofs.Yteodlmgmmpkpoaa.PS
open Go.RowKit Go.Proofs.YteodlmgmmpkpoaaW.PrintWords Go.Proofs.YteodlmgmmpkpoaaW.PrintLast Go.Proofs.YteodlmgmmpkpoaaW.PrintMore
attribute [local go_sem] max2_int min2_int max_two min_two max_three min_three max_four min_four   -- for this text's walks alone
set_option linter.unusedVariables false
set_option linter.unusedSimpArgs false
def swashplatelaw01_sameInts.l0 : Nat → List Int → List Int → Int → Option (Bool)
  | 0, _, _, _ => none
  | k + 1, x0, x1, x5 => if x5 < (x0.length : Int) then (if 0 ≤ x5 then (if x5 < (x1.length : Int) then (if (rd x0 x5) = (rd x1 x5) then (swashplatelaw01_sameInts.l0 k x0 x1 (wrap64 (x5 + 1))) else (some false)) else (none)) else (none)) else (some true)
def swashplatelaw01_sameInts.f (k : Nat) (l0 : List Int) (l1 : List Int) : Option (Bool) := if (l0.length : Int) = (l1.length : Int) then (swashplatelaw01_sameInts.l0 k l0 l1 0) else (some false)
set_option maxHeartbeats 8000000 in
set_option maxRecDepth 100000 in
theorem swashplatelaw01_sameInts.calls (k : Nat) (A0 : Option Addr) (c0 : Nat) (l0 : List Int) (A1 : Option Addr) (c1 : Nat) (l1 : List Int) (r : Bool) (w : World) (hr0 : Kd.C (Kd.int .i64) w A0 l0.length l0) (hc0 : l0.length ≤ c0) (hr1 : Kd.C (Kd.int .i64) w A1 l1.length l1) (hc1 : l1.length ≤ c1) (h : swashplatelaw01_sameInts.f k l0 l1 = some r) :
    Calls Try.prog 78 #[.slice A0 l0.length c0, .slice A1 l1.length c1] w fun e w' => e = .returned (.bool r) ∧ Drawn0 w w' := by
  have HR0 := Aside0.mk hr0
  have HC0 := Aside0.mk hc0
  clear hr0 hc0
  have HR1 := Aside0.mk hr1
  have HC1 := Aside0.mk hc1
  clear hr1 hc1
  have H : (if (l0.length : Int) = (l1.length : Int) then (swashplatelaw01_sameInts.l0 k l0 l1 0) else (some false)) = some r := h
  clear h
  by_cases c3 : (l0.length : Int) = (l1.length : Int)
  · rw [if_pos c3] at H
    have c3b0 : ((l0.length : Int) == (l1.length : Int)) = true := beq_iff_eq.mpr c3
    have c3b1 : ((l0.length : Int) != (l1.length : Int)) = false := bne_eq_false_iff_eq.mpr c3
    have c3b2 : (l0.length == l1.length) = true := by first | simpa using c3 | (simp at c3 ⊢; omega)
    clear c3
    have H' := Aside0.mk H
    clear H
    go_enter Try.func78, Try.ntmps78
    go_wp2
    go_loopg [5] k (fun kq v5 w' => ∃ (x5_1 : Int), v5 = .int .i64 x5_1 ∧ Aside0 (swashplatelaw01_sameInts.l0 kq l0 l1 x5_1 = some r) ∧ Aside0 (kq ≤ k) ∧ Drawn0 w w')
    case atStart => exact ⟨(0), (by first | rfl | (simp; done) | (simp [*]; done)), H', ⟨Nat.le_refl _⟩, by repeat (first | exact Drawn0.refl _ | apply Drawn0.step)⟩
    case round =>
      clear H'
      try clear c1
      try clear p2
      try clear c3
      try clear c3b0
      try clear c3b1
      try clear c3b2
      obtain ⟨x5_1, rfl, HA, HK1, ⟨m1, rfl⟩⟩ := hrel
      cases gk with
      | zero => exact absurd HA.out (by simp [swashplatelaw01_sameInts.l0])
      | succ k1 =>
        have H := HA.out
        clear HA
        simp only [swashplatelaw01_sameInts.l0] at H
        by_cases c4 : x5_1 < (l0.length : Int)
        · rw [if_pos c4] at H
          have c4b0 : decide (x5_1 < (l0.length : Int)) = true := decide_eq_true c4
          clear c4
          by_cases c5 : 0 ≤ x5_1
          · rw [if_pos c5] at H
            have c5b0 : decide (0 ≤ x5_1) = true := decide_eq_true c5
            clear c5
            by_cases c6 : x5_1 < (l1.length : Int)
            · rw [if_pos c6] at H
              have c6b0 : decide (x5_1 < (l1.length : Int)) = true := decide_eq_true c6
              clear c6
              by_cases c7 : (rd l0 x5_1) = (rd l1 x5_1)
              · rw [if_pos c7] at H
                have c7b0 : ((rd l0 x5_1) == (rd l1 x5_1)) = true := beq_iff_eq.mpr c7
                have c7b1 : ((rd l0 x5_1) != (rd l1 x5_1)) = false := bne_eq_false_iff_eq.mpr c7
                clear c7
                have H' := Aside0.mk H
                clear H
                have p764 : 0 ≤ (x5_1 : Int) := of_decide_eq_true (by first | (with_reducible assumption) | assumption)
                have q764 : x5_1 < (l0.length : Int) := of_decide_eq_true (by first | (with_reducible assumption) | assumption)
                obtain ⟨ad764, e764, hx764_0⟩ := Kd.at_int HR0.out x5_1 p764 q764
                cases e764
                replace p764 := eq_true p764
                replace q764 := eq_true q764
                have p765 : 0 ≤ (x5_1 : Int) := of_decide_eq_true (by first | (with_reducible assumption) | assumption)
                have q765 : x5_1 < (l1.length : Int) := of_decide_eq_true (by first | (with_reducible assumption) | assumption)
                obtain ⟨ad765, e765, hx765_0⟩ := Kd.at_int HR1.out x5_1 p765 q765
                cases e765
                replace p765 := eq_true p765
                replace q765 := eq_true q765
                go_wp2
                repeat (go_quiet (fail); try go_wp2)
                go_roundg k1
                case measure => have := HK1.out; omega
                case rel => exact ⟨(wrap64 (x5_1 + 1)), (by first | rfl | (simp; done) | (simp [*]; done)), H', ⟨by have := HK1.out; omega⟩, by repeat (first | exact Drawn0.refl _ | apply Drawn0.step)⟩
              · rw [if_neg c7] at H
                have c7b0 : ((rd l0 x5_1) == (rd l1 x5_1)) = false := beq_eq_false_iff_ne.mpr c7
                have c7b1 : ((rd l0 x5_1) != (rd l1 x5_1)) = true := bne_iff_ne.mpr c7
                obtain rfl := Option.some.inj H
                have p764 : 0 ≤ (x5_1 : Int) := of_decide_eq_true (by first | (with_reducible assumption) | assumption)
                have q764 : x5_1 < (l0.length : Int) := of_decide_eq_true (by first | (with_reducible assumption) | assumption)
                obtain ⟨ad764, e764, hx764_0⟩ := Kd.at_int HR0.out x5_1 p764 q764
                cases e764
                replace p764 := eq_true p764
                replace q764 := eq_true q764
                have p765 : 0 ≤ (x5_1 : Int) := of_decide_eq_true (by first | (with_reducible assumption) | assumption)
                have q765 : x5_1 < (l1.length : Int) := of_decide_eq_true (by first | (with_reducible assumption) | assumption)
                obtain ⟨ad765, e765, hx765_0⟩ := Kd.at_int HR1.out x5_1 p765 q765
                cases e765
                replace p765 := eq_true p765
                replace q765 := eq_true q765
                go_wp2
                repeat (go_quiet (fail); try go_wp2)
                go_ret
                exact ⟨by first | rfl | (simp; done) | (simp [*]; done), by repeat (first | exact Drawn0.refl _ | apply Drawn0.step)⟩
            · rw [if_neg c6] at H
              exact absurd H (by simp)
          · rw [if_neg c5] at H
            exact absurd H (by simp)
        · rw [if_neg c4] at H
          have c4b0 : decide (x5_1 < (l0.length : Int)) = false := decide_eq_false c4
          clear c4
          obtain rfl := Option.some.inj H
          go_wp2
          go_ret
          exact ⟨by first | rfl | (simp; done) | (simp [*]; done), by repeat (first | exact Drawn0.refl _ | apply Drawn0.step)⟩
  · rw [if_neg c3] at H
    have c3b0 : ((l0.length : Int) == (l1.length : Int)) = false := beq_eq_false_iff_ne.mpr c3
    have c3b1 : ((l0.length : Int) != (l1.length : Int)) = true := bne_iff_ne.mpr c3
    have c3b2 : (l0.length == l1.length) = false := by first | simpa using c3 | (simp at c3 ⊢; omega)
    obtain rfl := Option.some.inj H
    go_enter Try.func78, Try.ntmps78
    go_wp2
    go_ret
    exact ⟨by first | rfl | (simp; done) | (simp [*]; done), by repeat (first | exact Drawn0.refl _ | apply Drawn0.step)⟩
end Go.Proofs.Yteodlmgmmpkpoaa.PS
end
section
namespace Go.Proofs.Yteodlmgmmpkpoaa.PS
open Go.RowKit Go.Proofs.YteodlmgmmpkpoaaW.PrintWords Go.Proofs.YteodlmgmmpkpoaaW.PrintLast Go.Proofs.YteodlmgmmpkpoaaW.PrintMore
attribute [local go_sem] max2_int min2_int max_two min_two max_three min_three max_four min_four   -- for this text's walks alone
set_option linter.unusedVariables false
set_option linter.unusedSimpArgs false
mutual
def swashplatelaw01_sameTable.j0 : Nat → Bool → List Int → List Int → List (List Int) → List Int → List Int → List (List Int) → Option (Bool)
  | 0, _, _, _, _, _, _, _ => none
  | k + 1, x28, x909000, x909001, x909002, x910000, x910001, x910002 => if x28 = true then (some false) else (swashplatelaw01_sameTable.l0 k 0 x909000 x909001 x909002 x910000 x910001 x910002)
def swashplatelaw01_sameTable.l0 : Nat → Int → List Int → List Int → List (List Int) → List Int → List Int → List (List Int) → Option (Bool)
  | 0, _, _, _, _, _, _, _ => none
  | k + 1, x5, x909000, x909001, x909002, x910000, x910001, x910002 => if x5 < (x909002.length : Int) then (if 0 ≤ x5 then (if x5 < (x910002.length : Int) then ((swashplatelaw01_sameInts.f k (rd_L3 x909002 x5) (rd_L3 x910002 x5)).bind fun t914 => (if t914 = true then (swashplatelaw01_sameTable.l0 k (wrap64 (x5 + 1)) x909000 x909001 x909002 x910000 x910001 x910002) else (some false))) else (none)) else (none)) else (some true)
end
def swashplatelaw01_sameTable.f (k : Nat) (l0_0 : List Int) (l0_1 : List Int) (l0_2 : List (List Int)) (l1_0 : List Int) (l1_1 : List Int) (l1_2 : List (List Int)) : Option (Bool) := (swashplatelaw01_sameInts.f k l0_0 l1_0).bind fun t910 => (if t910 = true then ((swashplatelaw01_sameInts.f k l0_1 l1_1).bind fun t911 => (if t911 = true then (swashplatelaw01_sameTable.j0 k ((l0_2.length : Int) != (l1_2.length : Int)) l0_0 l0_1 l0_2 l1_0 l1_1 l1_2) else (swashplatelaw01_sameTable.j0 k true l0_0 l0_1 l0_2 l1_0 l1_1 l1_2))) else (swashplatelaw01_sameTable.j0 k true l0_0 l0_1 l0_2 l1_0 l1_1 l1_2))
set_option maxHeartbeats 8000000 in
set_option maxRecDepth 100000 in
theorem swashplatelaw01_sameTable.calls (k : Nat) (A0_0 : Option Addr) (c0_0 : Nat) (l0_0 : List Int) (A0_1 : Option Addr) (c0_1 : Nat) (l0_1 : List Int) (A0_2 : Option Addr) (c0_2 : Nat) (l0_2 : List (List Int)) (A1_0 : Option Addr) (c1_0 : Nat) (l1_0 : List Int) (A1_1 : Option Addr) (c1_1 : Nat) (l1_1 : List Int) (A1_2 : Option Addr) (c1_2 : Nat) (l1_2 : List (List Int)) (r : Bool) (w : World) (hr0_0 : Kd.C (Kd.int .i64) w A0_0 l0_0.length l0_0) (hc0_0 : l0_0.length ≤ c0_0) (hr0_1 : Kd.C (Kd.int .i64) w A0_1 l0_1.length l0_1) (hc0_1 : l0_1.length ≤ c0_1) (hr0_2 : Kd.C (Kd.slice 3 (Kd.int .i64)) w A0_2 l0_2.length l0_2) (hc0_2 : l0_2.length ≤ c0_2) (hr1_0 : Kd.C (Kd.int .i64) w A1_0 l1_0.length l1_0) (hc1_0 : l1_0.length ≤ c1_0) (hr1_1 : Kd.C (Kd.int .i64) w A1_1 l1_1.length l1_1) (hc1_1 : l1_1.length ≤ c1_1) (hr1_2 : Kd.C (Kd.slice 3 (Kd.int .i64)) w A1_2 l1_2.length l1_2) (hc1_2 : l1_2.length ≤ c1_2) (h : swashplatelaw01_sameTable.f k l0_0 l0_1 l0_2 l1_0 l1_1 l1_2 = some r) :
    Calls Try.prog 36 #[.agg #[.slice A0_0 l0_0.length c0_0, .slice A0_1 l0_1.length c0_1, .slice A0_2 l0_2.length c0_2], .agg #[.slice A1_0 l1_0.length c1_0, .slice A1_1 l1_1.length c1_1, .slice A1_2 l1_2.length c1_2]] w fun e w' => e = .returned (.bool r) ∧ Below w.heap.size w w' := by
  have hu25 := Try.underlying25
  have HR0_0 := Aside0.mk hr0_0
  have HC0_0 := Aside0.mk hc0_0
  clear hr0_0 hc0_0
  have HR0_1 := Aside0.mk hr0_1
  have HC0_1 := Aside0.mk hc0_1
  clear hr0_1 hc0_1
  have HR0_2 := Aside0.mk hr0_2
  have HC0_2 := Aside0.mk hc0_2
  clear hr0_2 hc0_2
  have HR1_0 := Aside0.mk hr1_0
  have HC1_0 := Aside0.mk hc1_0
  clear hr1_0 hc1_0
  have HR1_1 := Aside0.mk hr1_1
  have HC1_1 := Aside0.mk hc1_1
  clear hr1_1 hc1_1
  have HR1_2 := Aside0.mk hr1_2
  have HC1_2 := Aside0.mk hc1_2
  clear hr1_2 hc1_2
  have HB := Aside0.mk (Below.refl w.heap.size w)
  have H : ((swashplatelaw01_sameInts.f k l0_0 l1_0).bind fun t910 => (if t910 = true then ((swashplatelaw01_sameInts.f k l0_1 l1_1).bind fun t911 => (if t911 = true then (swashplatelaw01_sameTable.j0 k ((l0_2.length : Int) != (l1_2.length : Int)) l0_0 l0_1 l0_2 l1_0 l1_1 l1_2) else (swashplatelaw01_sameTable.j0 k true l0_0 l0_1 l0_2 l1_0 l1_1 l1_2))) else (swashplatelaw01_sameTable.j0 k true l0_0 l0_1 l0_2 l1_0 l1_1 l1_2))) = some r := h
  clear h
  have HC3 := Aside0.mk H
  clear H
  go_enter Try.func36, Try.ntmps36
  go_upto_region 1 with (first | ((with_reducible refine gate_dst (N := 2) rfl ?_); (try (refine gate_guard (by rfl) ?_; dsimp only)); refine box_event ?hg (N := 2) ?hd (cs := #[.slice A0_0 l0_0.length c0_0, .slice A0_1 l0_1.length c0_1, .slice A0_2 l0_2.length c0_2]) (t := 25) ?hr ?_; (case hd => rfl); (case hg => rfl); (case hr => first | (go_simp; done) | (go_simp; rfl)); intro gb908 hg w4 hbox hb; have n0_ := Aside0.mk (below_step (bl_ HB.out) hb); have n1_ := Aside0.mk (hbox); have n2_ := Aside0.mk ((by rw [hg]; exact (below_size (bl_ HB.out)) : w.heap.size ≤ gb908)); have n3_ := Aside0.mk ((by rw [hg]; exact (below_size (bl_ HB.out)) : w.heap.size ≤ gb908)); clear HB; have HB := n0_; have BK908 := n1_; have GW908 := n2_; have GE908 := n3_; clear n0_ n1_ n2_ n3_; clear hb hbox hg) | ((with_reducible refine gate_dst (N := 3) rfl ?_); (try (refine gate_guard (by rfl) ?_; dsimp only)); refine box_event ?hg (N := 3) ?hd (cs := #[.slice A1_0 l1_0.length c1_0, .slice A1_1 l1_1.length c1_1, .slice A1_2 l1_2.length c1_2]) (t := 25) ?hr ?_; (case hd => rfl); (case hg => rfl); (case hr => first | (go_simp; done) | (go_simp; rfl)); intro gb909 hg w5 hbox hb; have n0_ := Aside0.mk (blk_below (g := gb908) (o := .cells #[.slice A0_0 l0_0.length c0_0, .slice A0_1 l0_1.length c0_1, .slice A0_2 l0_2.length c0_2] 25 (0, 0)) (bk_ BK908.out) hb); have n1_ := Aside0.mk (below_step (bl_ HB.out) hb); have n2_ := Aside0.mk (hbox); have n3_ := Aside0.mk ((by rw [hg]; exact (below_size (bl_ HB.out)) : w.heap.size ≤ gb909)); have n4_ := Aside0.mk ((by rw [hg]; exact (below_size (bl_ HB.out)) : w.heap.size ≤ gb909)); have n5_ := Aside0.mk ((by rw [hg]; exact Nat.ne_of_lt (blk_lt (g := gb908) (o := .cells #[.slice A0_0 l0_0.length c0_0, .slice A0_1 l0_1.length c0_1, .slice A0_2 l0_2.length c0_2] 25 (0, 0)) (bk_ BK908.out)) : gb908 ≠ gb909)); have n6_ := Aside0.mk ((by rw [hg]; exact Nat.ne_of_gt (blk_lt (g := gb908) (o := .cells #[.slice A0_0 l0_0.length c0_0, .slice A0_1 l0_1.length c0_1, .slice A0_2 l0_2.length c0_2] 25 (0, 0)) (bk_ BK908.out)) : gb909 ≠ gb908)); clear BK908; clear HB; have BK908 := n0_; have HB := n1_; have BK909 := n2_; have GW909 := n3_; have GE909 := n4_; have NB908_909 := n5_; have NB909_908 := n6_; clear n0_ n1_ n2_ n3_ n4_ n5_ n6_; clear hb hbox hg))
  (try simp only [Act.put, List.setIfInBounds_toArray, List.set_cons_zero, List.set_cons_succ])
  go_cut [28] (fun v28 wc => ∃ (kq : Nat) (x28_2 : Bool), v28 = .bool x28_2 ∧ Aside0 (swashplatelaw01_sameTable.j0 kq x28_2 l0_0 l0_1 l0_2 l1_0 l1_1 l1_2 = some r) ∧ Aside0 (kq ≤ k) ∧ Aside0 (wc.heap[gb908]? = some (.cells #[(.slice A0_0 l0_0.length c0_0), (.slice A0_1 l0_1.length c0_1), (.slice A0_2 l0_2.length c0_2)] 25 (0, 0))) ∧ Aside0 (wc.heap[gb909]? = some (.cells #[(.slice A1_0 l1_0.length c1_0), (.slice A1_1 l1_1.length c1_1), (.slice A1_2 l1_2.length c1_2)] 25 (0, 0))) ∧ Aside0 (Below w.heap.size w wc))
  case first =>
    have H := HC3.out
    clear HC3
    replace H := Option.bind_eq_some_iff.mp H
    obtain ⟨t910, A60, H⟩ := H
    replace H : (if t910 = true then ((swashplatelaw01_sameInts.f k l0_1 l1_1).bind fun t911 => (if t911 = true then (swashplatelaw01_sameTable.j0 k ((l0_2.length : Int) != (l1_2.length : Int)) l0_0 l0_1 l0_2 l1_0 l1_1 l1_2) else (swashplatelaw01_sameTable.j0 k true l0_0 l0_1 l0_2 l1_0 l1_1 l1_2))) else (swashplatelaw01_sameTable.j0 k true l0_0 l0_1 l0_2 l1_0 l1_1 l1_2)) = some r := H
    have A6 := Aside0.mk A60
    clear A60
    by_cases c7 : t910 = true
    · subst c7
      have H1 : ((swashplatelaw01_sameInts.f k l0_1 l1_1).bind fun t911 => (if t911 = true then (swashplatelaw01_sameTable.j0 k ((l0_2.length : Int) != (l1_2.length : Int)) l0_0 l0_1 l0_2 l1_0 l1_1 l1_2) else (swashplatelaw01_sameTable.j0 k true l0_0 l0_1 l0_2 l1_0 l1_1 l1_2))) = some r := by rw [if_pos rfl] at H; exact H
      clear H
      have H := H1
      clear H1
      replace H := Option.bind_eq_some_iff.mp H
      obtain ⟨t911, A80, H⟩ := H
      replace H : (if t911 = true then (swashplatelaw01_sameTable.j0 k ((l0_2.length : Int) != (l1_2.length : Int)) l0_0 l0_1 l0_2 l1_0 l1_1 l1_2) else (swashplatelaw01_sameTable.j0 k true l0_0 l0_1 l0_2 l1_0 l1_1 l1_2)) = some r := H
      have A8 := Aside0.mk A80
      clear A80
      by_cases c9 : t911 = true
      · subst c9
        have H1 : (swashplatelaw01_sameTable.j0 k ((l0_2.length : Int) != (l1_2.length : Int)) l0_0 l0_1 l0_2 l1_0 l1_1 l1_2) = some r := by rw [if_pos rfl] at H; exact H
        clear H
        have H := H1
        clear H1
        have H' := Aside0.mk H
        clear H
        have hnb10 := NB908_909.out
        have hnc10 := NB909_908.out
        have hcz11_0 : w5.cell? ⟨gb908, 0, none⟩ = some (.slice A0_0 l0_0.length c0_0) := (blk_cell BK908.out 0).trans rfl
        have hcz11_1 : w5.cell? ⟨gb908, 1, none⟩ = some (.slice A0_1 l0_1.length c0_1) := (blk_cell BK908.out 1).trans rfl
        have hcz11_2 : w5.cell? ⟨gb908, 2, none⟩ = some (.slice A0_2 l0_2.length c0_2) := (blk_cell BK908.out 2).trans rfl
        have hfz11_0 := blk_frozen BK908.out 0
        have hfz11_1 := blk_frozen BK908.out 1
        have hfz11_2 := blk_frozen BK908.out 2
        have hcz12_0 : w5.cell? ⟨gb909, 0, none⟩ = some (.slice A1_0 l1_0.length c1_0) := (blk_cell BK909.out 0).trans rfl
        have hcz12_1 : w5.cell? ⟨gb909, 1, none⟩ = some (.slice A1_1 l1_1.length c1_1) := (blk_cell BK909.out 1).trans rfl
        have hcz12_2 : w5.cell? ⟨gb909, 2, none⟩ = some (.slice A1_2 l1_2.length c1_2) := (blk_cell BK909.out 2).trans rfl
        have hfz12_0 := blk_frozen BK909.out 0
        have hfz12_1 := blk_frozen BK909.out 1
        have hfz12_2 := blk_frozen BK909.out 2
        go_wp2_with (first | (go_at_call 78; (with_reducible refine (swashplatelaw01_sameInts.calls k _ _ l0_0 _ _ l1_0 true _ ?side1 ?side2 ?side3 ?side4 A6.out).mono ?_); (case side1 => exact cr_ (Kd.C_below HR0_0.out HB.out)); (case side2 => exact HC0_0.out); (case side3 => exact cr_ (Kd.C_below HR1_0.out HB.out)); (case side4 => exact HC1_0.out); rintro e w' ⟨rfl, ⟨nd, rfl⟩⟩; (try first | exact ⟨rfl, _, World.drewN_drewN _ _ _⟩ | exact ⟨rfl, _, Eq.trans (World.drewN_drewN _ _ _) (congrArg (World.drewN _) (Nat.add_assoc _ _ _))⟩)) | (go_at_call 78; (with_reducible refine (swashplatelaw01_sameInts.calls k _ _ l0_1 _ _ l1_1 true _ ?side1 ?side2 ?side3 ?side4 A8.out).mono ?_); (case side1 => exact cr_ (Kd.C_below HR0_1.out (bl_ HB.out))); (case side2 => exact HC0_1.out); (case side3 => exact cr_ (Kd.C_below HR1_1.out (bl_ HB.out))); (case side4 => exact HC1_1.out); rintro e w' ⟨rfl, ⟨nd, rfl⟩⟩; (try first | exact ⟨rfl, _, World.drewN_drewN _ _ _⟩ | exact ⟨rfl, _, Eq.trans (World.drewN_drewN _ _ _) (congrArg (World.drewN _) (Nat.add_assoc _ _ _))⟩)))
        go_meet
        case rel => exact ⟨_, (((l0_2.length : Int) != (l1_2.length : Int))), (by first | rfl | (simp; done) | (simp [*]; done)), H', ⟨by first | omega | exact Nat.le_refl _⟩, ⟨bk_ BK908.out⟩, ⟨bk_ BK909.out⟩, ⟨bl_ HB.out⟩⟩
      · replace c9 := Bool.eq_false_iff.mpr c9
        subst c9
        have H1 : (swashplatelaw01_sameTable.j0 k true l0_0 l0_1 l0_2 l1_0 l1_1 l1_2) = some r := by rw [if_neg (show ¬ (false = true) by decide)] at H; exact H
        clear H
        have H := H1
        clear H1
        have H' := Aside0.mk H
        clear H
        have hnb13 := NB908_909.out
        have hnc13 := NB909_908.out
        have hcz14_0 : w5.cell? ⟨gb908, 0, none⟩ = some (.slice A0_0 l0_0.length c0_0) := (blk_cell BK908.out 0).trans rfl
        have hcz14_1 : w5.cell? ⟨gb908, 1, none⟩ = some (.slice A0_1 l0_1.length c0_1) := (blk_cell BK908.out 1).trans rfl
        have hcz14_2 : w5.cell? ⟨gb908, 2, none⟩ = some (.slice A0_2 l0_2.length c0_2) := (blk_cell BK908.out 2).trans rfl
        have hfz14_0 := blk_frozen BK908.out 0
        have hfz14_1 := blk_frozen BK908.out 1
        have hfz14_2 := blk_frozen BK908.out 2
        have hcz15_0 : w5.cell? ⟨gb909, 0, none⟩ = some (.slice A1_0 l1_0.length c1_0) := (blk_cell BK909.out 0).trans rfl
        have hcz15_1 : w5.cell? ⟨gb909, 1, none⟩ = some (.slice A1_1 l1_1.length c1_1) := (blk_cell BK909.out 1).trans rfl
        have hcz15_2 : w5.cell? ⟨gb909, 2, none⟩ = some (.slice A1_2 l1_2.length c1_2) := (blk_cell BK909.out 2).trans rfl
        have hfz15_0 := blk_frozen BK909.out 0
        have hfz15_1 := blk_frozen BK909.out 1
        have hfz15_2 := blk_frozen BK909.out 2
        go_wp2_with (first | (go_at_call 78; (with_reducible refine (swashplatelaw01_sameInts.calls k _ _ l0_0 _ _ l1_0 true _ ?side1 ?side2 ?side3 ?side4 A6.out).mono ?_); (case side1 => exact cr_ (Kd.C_below HR0_0.out HB.out)); (case side2 => exact HC0_0.out); (case side3 => exact cr_ (Kd.C_below HR1_0.out HB.out)); (case side4 => exact HC1_0.out); rintro e w' ⟨rfl, ⟨nd, rfl⟩⟩; (try first | exact ⟨rfl, _, World.drewN_drewN _ _ _⟩ | exact ⟨rfl, _, Eq.trans (World.drewN_drewN _ _ _) (congrArg (World.drewN _) (Nat.add_assoc _ _ _))⟩)) | (go_at_call 78; (with_reducible refine (swashplatelaw01_sameInts.calls k _ _ l0_1 _ _ l1_1 false _ ?side1 ?side2 ?side3 ?side4 A8.out).mono ?_); (case side1 => exact cr_ (Kd.C_below HR0_1.out (bl_ HB.out))); (case side2 => exact HC0_1.out); (case side3 => exact cr_ (Kd.C_below HR1_1.out (bl_ HB.out))); (case side4 => exact HC1_1.out); rintro e w' ⟨rfl, ⟨nd, rfl⟩⟩; (try first | exact ⟨rfl, _, World.drewN_drewN _ _ _⟩ | exact ⟨rfl, _, Eq.trans (World.drewN_drewN _ _ _) (congrArg (World.drewN _) (Nat.add_assoc _ _ _))⟩)))
        go_meet
        case rel => exact ⟨_, (true), (by first | rfl | (simp; done) | (simp [*]; done)), H', ⟨by first | omega | exact Nat.le_refl _⟩, ⟨bk_ BK908.out⟩, ⟨bk_ BK909.out⟩, ⟨bl_ HB.out⟩⟩
    · replace c7 := Bool.eq_false_iff.mpr c7
      subst c7
      have H1 : (swashplatelaw01_sameTable.j0 k true l0_0 l0_1 l0_2 l1_0 l1_1 l1_2) = some r := by rw [if_neg (show ¬ (false = true) by decide)] at H; exact H
      clear H
      have H := H1
      clear H1
      have H' := Aside0.mk H
      clear H
      have hnb16 := NB908_909.out
      have hnc16 := NB909_908.out
      have hcz17_0 : w5.cell? ⟨gb908, 0, none⟩ = some (.slice A0_0 l0_0.length c0_0) := (blk_cell BK908.out 0).trans rfl
      have hcz17_1 : w5.cell? ⟨gb908, 1, none⟩ = some (.slice A0_1 l0_1.length c0_1) := (blk_cell BK908.out 1).trans rfl
      have hcz17_2 : w5.cell? ⟨gb908, 2, none⟩ = some (.slice A0_2 l0_2.length c0_2) := (blk_cell BK908.out 2).trans rfl
      have hfz17_0 := blk_frozen BK908.out 0
      have hfz17_1 := blk_frozen BK908.out 1
      have hfz17_2 := blk_frozen BK908.out 2
      have hcz18_0 : w5.cell? ⟨gb909, 0, none⟩ = some (.slice A1_0 l1_0.length c1_0) := (blk_cell BK909.out 0).trans rfl
      have hcz18_1 : w5.cell? ⟨gb909, 1, none⟩ = some (.slice A1_1 l1_1.length c1_1) := (blk_cell BK909.out 1).trans rfl
      have hcz18_2 : w5.cell? ⟨gb909, 2, none⟩ = some (.slice A1_2 l1_2.length c1_2) := (blk_cell BK909.out 2).trans rfl
      have hfz18_0 := blk_frozen BK909.out 0
      have hfz18_1 := blk_frozen BK909.out 1
      have hfz18_2 := blk_frozen BK909.out 2
      go_wp2_with (first | (go_at_call 78; (with_reducible refine (swashplatelaw01_sameInts.calls k _ _ l0_0 _ _ l1_0 false _ ?side1 ?side2 ?side3 ?side4 A6.out).mono ?_); (case side1 => exact cr_ (Kd.C_below HR0_0.out HB.out)); (case side2 => exact HC0_0.out); (case side3 => exact cr_ (Kd.C_below HR1_0.out HB.out)); (case side4 => exact HC1_0.out); rintro e w' ⟨rfl, ⟨nd, rfl⟩⟩; (try first | exact ⟨rfl, _, World.drewN_drewN _ _ _⟩ | exact ⟨rfl, _, Eq.trans (World.drewN_drewN _ _ _) (congrArg (World.drewN _) (Nat.add_assoc _ _ _))⟩)))
      go_meet
      case rel => exact ⟨_, (true), (by first | rfl | (simp; done) | (simp [*]; done)), H', ⟨by first | omega | exact Nat.le_refl _⟩, ⟨bk_ BK908.out⟩, ⟨bk_ BK909.out⟩, ⟨bl_ HB.out⟩⟩
  case rest =>
    clear HC3
    try clear c1
    try clear p2
    try clear c3
    try clear c7
    try clear c9
    try clear c10
    try clear c13
    try clear c16
    try clear hcz11_0
    try clear hcz11_1
    try clear hcz11_2
    try clear hcz12_0
    try clear hcz12_1
    try clear hcz12_2
    try clear hcz14_0
    try clear hcz14_1
    try clear hcz14_2
    try clear hcz15_0
    try clear hcz15_1
    try clear hcz15_2
    try clear hcz17_0
    try clear hcz17_1
    try clear hcz17_2
    try clear hcz18_0
    try clear hcz18_1
    try clear hcz18_2
    try clear hfz11_0
    try clear hfz11_1
    try clear hfz11_2
    try clear hfz12_0
    try clear hfz12_1
    try clear hfz12_2
    try clear hfz14_0
    try clear hfz14_1
    try clear hfz14_2
    try clear hfz15_0
    try clear hfz15_1
    try clear hfz15_2
    try clear hfz17_0
    try clear hfz17_1
    try clear hfz17_2
    try clear hfz18_0
    try clear hfz18_1
    try clear hfz18_2
    obtain ⟨kq, x28_2, rfl, HA, HJ2, BK908, BK909, HB⟩ := hcut
    cases kq with
    | zero => exact absurd HA.out (by simp [swashplatelaw01_sameTable.j0])
    | succ kj2 =>
      have H := HA.out
      clear HA
      simp only [swashplatelaw01_sameTable.j0] at H
      by_cases c19 : x28_2 = true
      · subst c19
        have H1 : (some false) = some r := by rw [if_pos rfl] at H; exact H
        clear H
        have H := H1
        clear H1
        obtain rfl := Option.some.inj H
        go_wp2
        go_ret
        exact ⟨by first | rfl | (simp [errW_none, errW_some] <;> rfl) | (simp [*, errW_none, errW_some] <;> rfl), bl_ HB.out⟩
      · replace c19 := Bool.eq_false_iff.mpr c19
        subst c19
        have H1 : (swashplatelaw01_sameTable.l0 kj2 0 l0_0 l0_1 l0_2 l1_0 l1_1 l1_2) = some r := by rw [if_neg (show ¬ (false = true) by decide)] at H; exact H
        clear H
        have H := H1
        clear H1
        have H' := Aside0.mk H
        clear H
        go_wp2
        go_loopg [5] kj2 (fun kq v5 w' => ∃ (x5_2 : Int), v5 = .int .i64 x5_2 ∧ Aside0 (swashplatelaw01_sameTable.l0 kq x5_2 l0_0 l0_1 l0_2 l1_0 l1_1 l1_2 = some r) ∧ Aside0 (kq ≤ kj2) ∧ Aside0 (w'.heap[gb908]? = some (.cells #[(.slice A0_0 l0_0.length c0_0), (.slice A0_1 l0_1.length c0_1), (.slice A0_2 l0_2.length c0_2)] 25 (0, 0))) ∧ Aside0 (w'.heap[gb909]? = some (.cells #[(.slice A1_0 l1_0.length c1_0), (.slice A1_1 l1_1.length c1_1), (.slice A1_2 l1_2.length c1_2)] 25 (0, 0))) ∧ Aside0 (Below w.heap.size w w'))
        case atStart => exact ⟨(0), (by first | rfl | (simp; done) | (simp [*]; done)), H', ⟨Nat.le_refl _⟩, ⟨bk_ BK908.out⟩, ⟨bk_ BK909.out⟩, ⟨bl_ HB.out⟩⟩
        case round =>
          clear H'
          try clear c1
          try clear p2
          try clear c3
          try clear c7
          try clear c9
          try clear c10
          try clear c13
          try clear c16
          try clear c19
          try clear hcz11_0
          try clear hcz11_1
          try clear hcz11_2
          try clear hcz12_0
          try clear hcz12_1
          try clear hcz12_2
          try clear hcz14_0
          try clear hcz14_1
          try clear hcz14_2
          try clear hcz15_0
          try clear hcz15_1
          try clear hcz15_2
          try clear hcz17_0
          try clear hcz17_1
          try clear hcz17_2
          try clear hcz18_0
          try clear hcz18_1
          try clear hcz18_2
          try clear hfz11_0
          try clear hfz11_1
          try clear hfz11_2
          try clear hfz12_0
          try clear hfz12_1
          try clear hfz12_2
          try clear hfz14_0
          try clear hfz14_1
          try clear hfz14_2
          try clear hfz15_0
          try clear hfz15_1
          try clear hfz15_2
          try clear hfz17_0
          try clear hfz17_1
          try clear hfz17_2
          try clear hfz18_0
          try clear hfz18_1
          try clear hfz18_2
          try clear p2
          obtain ⟨x5_2, rfl, HA, HK2, BK908, BK909, HB⟩ := hrel
          cases gk with
          | zero => exact absurd HA.out (by simp [swashplatelaw01_sameTable.l0])
          | succ k2 =>
            have H := HA.out
            clear HA
            simp only [swashplatelaw01_sameTable.l0] at H
            by_cases c20 : x5_2 < (l0_2.length : Int)
            · rw [if_pos c20] at H
              have c20b0 : decide (x5_2 < (l0_2.length : Int)) = true := decide_eq_true c20
              clear c20
              by_cases c21 : 0 ≤ x5_2
              · rw [if_pos c21] at H
                have c21b0 : decide (0 ≤ x5_2) = true := decide_eq_true c21
                clear c21
                by_cases c22 : x5_2 < (l1_2.length : Int)
                · rw [if_pos c22] at H
                  have c22b0 : decide (x5_2 < (l1_2.length : Int)) = true := decide_eq_true c22
                  clear c22
                  replace H := Option.bind_eq_some_iff.mp H
                  obtain ⟨t914, A230, H⟩ := H
                  replace H : (if t914 = true then (swashplatelaw01_sameTable.l0 k2 (wrap64 (x5_2 + 1)) l0_0 l0_1 l0_2 l1_0 l1_1 l1_2) else (some false)) = some r := H
                  have A23 := Aside0.mk A230
                  clear A230
                  by_cases c24 : t914 = true
                  · subst c24
                    have H1 : (swashplatelaw01_sameTable.l0 k2 (wrap64 (x5_2 + 1)) l0_0 l0_1 l0_2 l1_0 l1_1 l1_2) = some r := by rw [if_pos rfl] at H; exact H
                    clear H
                    have H := H1
                    clear H1
                    have H' := Aside0.mk H
                    clear H
                    have hnb25 := NB908_909.out
                    have hnc25 := NB909_908.out
                    have hcz26_0 : wr.cell? ⟨gb908, 0, none⟩ = some (.slice A0_0 l0_0.length c0_0) := (blk_cell BK908.out 0).trans rfl
                    have hcz26_1 : wr.cell? ⟨gb908, 1, none⟩ = some (.slice A0_1 l0_1.length c0_1) := (blk_cell BK908.out 1).trans rfl
                    have hcz26_2 : wr.cell? ⟨gb908, 2, none⟩ = some (.slice A0_2 l0_2.length c0_2) := (blk_cell BK908.out 2).trans rfl
                    have hfz26_0 := blk_frozen BK908.out 0
                    have hfz26_1 := blk_frozen BK908.out 1
                    have hfz26_2 := blk_frozen BK908.out 2
                    have p912 : 0 ≤ (x5_2 : Int) := of_decide_eq_true (by first | (with_reducible assumption) | assumption)
                    have q912 : x5_2 < (l0_2.length : Int) := of_decide_eq_true (by first | (with_reducible assumption) | assumption)
                    obtain ⟨ad912, A912_0, c912_0, e912, hx912_0, hl912_0, hi912_0⟩ := at_L3 HR0_2.out x5_2 p912 q912
                    cases e912
                    replace hx912_0 := (HB.out.cell (World.block_lt_of_cell? w _ hx912_0)).trans hx912_0
                    have HR912_0 := Aside0.mk hi912_0
                    have HC912_0 := Aside0.mk hl912_0
                    clear hi912_0 hl912_0
                    replace p912 := eq_true p912
                    replace q912 := eq_true q912
                    have hcz27_0 : wr.cell? ⟨gb909, 0, none⟩ = some (.slice A1_0 l1_0.length c1_0) := (blk_cell BK909.out 0).trans rfl
                    have hcz27_1 : wr.cell? ⟨gb909, 1, none⟩ = some (.slice A1_1 l1_1.length c1_1) := (blk_cell BK909.out 1).trans rfl
                    have hcz27_2 : wr.cell? ⟨gb909, 2, none⟩ = some (.slice A1_2 l1_2.length c1_2) := (blk_cell BK909.out 2).trans rfl
                    have hfz27_0 := blk_frozen BK909.out 0
                    have hfz27_1 := blk_frozen BK909.out 1
                    have hfz27_2 := blk_frozen BK909.out 2
                    have p913 : 0 ≤ (x5_2 : Int) := of_decide_eq_true (by first | (with_reducible assumption) | assumption)
                    have q913 : x5_2 < (l1_2.length : Int) := of_decide_eq_true (by first | (with_reducible assumption) | assumption)
                    obtain ⟨ad913, A913_0, c913_0, e913, hx913_0, hl913_0, hi913_0⟩ := at_L3 HR1_2.out x5_2 p913 q913
                    cases e913
                    replace hx913_0 := (HB.out.cell (World.block_lt_of_cell? w _ hx913_0)).trans hx913_0
                    have HR913_0 := Aside0.mk hi913_0
                    have HC913_0 := Aside0.mk hl913_0
                    clear hi913_0 hl913_0
                    replace p913 := eq_true p913
                    replace q913 := eq_true q913
                    go_wp2_with (first | (go_at_call 78; (with_reducible refine (swashplatelaw01_sameInts.calls k2 _ _ (rd_L3 l0_2 x5_2) _ _ (rd_L3 l1_2 x5_2) true _ ?side1 ?side2 ?side3 ?side4 A23.out).mono ?_); (case side1 => exact cr_ (Kd.C_below HR912_0.out HB.out)); (case side2 => exact HC912_0.out); (case side3 => exact cr_ (Kd.C_below HR913_0.out HB.out)); (case side4 => exact HC913_0.out); rintro e w' ⟨rfl, ⟨nd, rfl⟩⟩; (try first | exact ⟨rfl, _, World.drewN_drewN _ _ _⟩ | exact ⟨rfl, _, Eq.trans (World.drewN_drewN _ _ _) (congrArg (World.drewN _) (Nat.add_assoc _ _ _))⟩)))
                    repeat (go_quiet (first | (go_at_call 78; (with_reducible refine (swashplatelaw01_sameInts.calls k2 _ _ (rd_L3 l0_2 x5_2) _ _ (rd_L3 l1_2 x5_2) true _ ?side1 ?side2 ?side3 ?side4 A23.out).mono ?_); (case side1 => exact cr_ (Kd.C_below HR912_0.out HB.out)); (case side2 => exact HC912_0.out); (case side3 => exact cr_ (Kd.C_below HR913_0.out HB.out)); (case side4 => exact HC913_0.out); rintro e w' ⟨rfl, ⟨nd, rfl⟩⟩; (try first | exact ⟨rfl, _, World.drewN_drewN _ _ _⟩ | exact ⟨rfl, _, Eq.trans (World.drewN_drewN _ _ _) (congrArg (World.drewN _) (Nat.add_assoc _ _ _))⟩))); try go_wp2_with (first | (go_at_call 78; (with_reducible refine (swashplatelaw01_sameInts.calls k2 _ _ (rd_L3 l0_2 x5_2) _ _ (rd_L3 l1_2 x5_2) true _ ?side1 ?side2 ?side3 ?side4 A23.out).mono ?_); (case side1 => exact cr_ (Kd.C_below HR912_0.out HB.out)); (case side2 => exact HC912_0.out); (case side3 => exact cr_ (Kd.C_below HR913_0.out HB.out)); (case side4 => exact HC913_0.out); rintro e w' ⟨rfl, ⟨nd, rfl⟩⟩; (try first | exact ⟨rfl, _, World.drewN_drewN _ _ _⟩ | exact ⟨rfl, _, Eq.trans (World.drewN_drewN _ _ _) (congrArg (World.drewN _) (Nat.add_assoc _ _ _))⟩))))
                    go_roundg k2
                    case measure => have := HJ2.out; have := HK2.out; omega
                    case rel => exact ⟨(wrap64 (x5_2 + 1)), (by first | rfl | (simp; done) | (simp [*]; done)), H', ⟨by have := HJ2.out; have := HK2.out; omega⟩, ⟨bk_ BK908.out⟩, ⟨bk_ BK909.out⟩, ⟨bl_ HB.out⟩⟩
                  · replace c24 := Bool.eq_false_iff.mpr c24
                    subst c24
                    have H1 : (some false) = some r := by rw [if_neg (show ¬ (false = true) by decide)] at H; exact H
                    clear H
                    have H := H1
                    clear H1
                    obtain rfl := Option.some.inj H
                    have hnb28 := NB908_909.out
                    have hnc28 := NB909_908.out
                    have hcz29_0 : wr.cell? ⟨gb908, 0, none⟩ = some (.slice A0_0 l0_0.length c0_0) := (blk_cell BK908.out 0).trans rfl
                    have hcz29_1 : wr.cell? ⟨gb908, 1, none⟩ = some (.slice A0_1 l0_1.length c0_1) := (blk_cell BK908.out 1).trans rfl
                    have hcz29_2 : wr.cell? ⟨gb908, 2, none⟩ = some (.slice A0_2 l0_2.length c0_2) := (blk_cell BK908.out 2).trans rfl
                    have hfz29_0 := blk_frozen BK908.out 0
                    have hfz29_1 := blk_frozen BK908.out 1
                    have hfz29_2 := blk_frozen BK908.out 2
                    have p912 : 0 ≤ (x5_2 : Int) := of_decide_eq_true (by first | (with_reducible assumption) | assumption)
                    have q912 : x5_2 < (l0_2.length : Int) := of_decide_eq_true (by first | (with_reducible assumption) | assumption)
                    obtain ⟨ad912, A912_0, c912_0, e912, hx912_0, hl912_0, hi912_0⟩ := at_L3 HR0_2.out x5_2 p912 q912
                    cases e912
                    replace hx912_0 := (HB.out.cell (World.block_lt_of_cell? w _ hx912_0)).trans hx912_0
                    have HR912_0 := Aside0.mk hi912_0
                    have HC912_0 := Aside0.mk hl912_0
                    clear hi912_0 hl912_0
                    replace p912 := eq_true p912
                    replace q912 := eq_true q912
                    have hcz30_0 : wr.cell? ⟨gb909, 0, none⟩ = some (.slice A1_0 l1_0.length c1_0) := (blk_cell BK909.out 0).trans rfl
                    have hcz30_1 : wr.cell? ⟨gb909, 1, none⟩ = some (.slice A1_1 l1_1.length c1_1) := (blk_cell BK909.out 1).trans rfl
                    have hcz30_2 : wr.cell? ⟨gb909, 2, none⟩ = some (.slice A1_2 l1_2.length c1_2) := (blk_cell BK909.out 2).trans rfl
                    have hfz30_0 := blk_frozen BK909.out 0
                    have hfz30_1 := blk_frozen BK909.out 1
                    have hfz30_2 := blk_frozen BK909.out 2
                    have p913 : 0 ≤ (x5_2 : Int) := of_decide_eq_true (by first | (with_reducible assumption) | assumption)
                    have q913 : x5_2 < (l1_2.length : Int) := of_decide_eq_true (by first | (with_reducible assumption) | assumption)
                    obtain ⟨ad913, A913_0, c913_0, e913, hx913_0, hl913_0, hi913_0⟩ := at_L3 HR1_2.out x5_2 p913 q913
                    cases e913
                    replace hx913_0 := (HB.out.cell (World.block_lt_of_cell? w _ hx913_0)).trans hx913_0
                    have HR913_0 := Aside0.mk hi913_0
                    have HC913_0 := Aside0.mk hl913_0
                    clear hi913_0 hl913_0
                    replace p913 := eq_true p913
                    replace q913 := eq_true q913
                    go_wp2_with (first | (go_at_call 78; (with_reducible refine (swashplatelaw01_sameInts.calls k2 _ _ (rd_L3 l0_2 x5_2) _ _ (rd_L3 l1_2 x5_2) false _ ?side1 ?side2 ?side3 ?side4 A23.out).mono ?_); (case side1 => exact cr_ (Kd.C_below HR912_0.out HB.out)); (case side2 => exact HC912_0.out); (case side3 => exact cr_ (Kd.C_below HR913_0.out HB.out)); (case side4 => exact HC913_0.out); rintro e w' ⟨rfl, ⟨nd, rfl⟩⟩; (try first | exact ⟨rfl, _, World.drewN_drewN _ _ _⟩ | exact ⟨rfl, _, Eq.trans (World.drewN_drewN _ _ _) (congrArg (World.drewN _) (Nat.add_assoc _ _ _))⟩)))
                    repeat (go_quiet (first | (go_at_call 78; (with_reducible refine (swashplatelaw01_sameInts.calls k2 _ _ (rd_L3 l0_2 x5_2) _ _ (rd_L3 l1_2 x5_2) false _ ?side1 ?side2 ?side3 ?side4 A23.out).mono ?_); (case side1 => exact cr_ (Kd.C_below HR912_0.out HB.out)); (case side2 => exact HC912_0.out); (case side3 => exact cr_ (Kd.C_below HR913_0.out HB.out)); (case side4 => exact HC913_0.out); rintro e w' ⟨rfl, ⟨nd, rfl⟩⟩; (try first | exact ⟨rfl, _, World.drewN_drewN _ _ _⟩ | exact ⟨rfl, _, Eq.trans (World.drewN_drewN _ _ _) (congrArg (World.drewN _) (Nat.add_assoc _ _ _))⟩))); try go_wp2_with (first | (go_at_call 78; (with_reducible refine (swashplatelaw01_sameInts.calls k2 _ _ (rd_L3 l0_2 x5_2) _ _ (rd_L3 l1_2 x5_2) false _ ?side1 ?side2 ?side3 ?side4 A23.out).mono ?_); (case side1 => exact cr_ (Kd.C_below HR912_0.out HB.out)); (case side2 => exact HC912_0.out); (case side3 => exact cr_ (Kd.C_below HR913_0.out HB.out)); (case side4 => exact HC913_0.out); rintro e w' ⟨rfl, ⟨nd, rfl⟩⟩; (try first | exact ⟨rfl, _, World.drewN_drewN _ _ _⟩ | exact ⟨rfl, _, Eq.trans (World.drewN_drewN _ _ _) (congrArg (World.drewN _) (Nat.add_assoc _ _ _))⟩))))
                    go_ret
                    exact ⟨by first | rfl | (simp [errW_none, errW_some] <;> rfl) | (simp [*, errW_none, errW_some] <;> rfl), bl_ HB.out⟩
                · rw [if_neg c22] at H
                  exact absurd H (by simp)
              · rw [if_neg c21] at H
                exact absurd H (by simp)
            · rw [if_neg c20] at H
              have c20b0 : decide (x5_2 < (l0_2.length : Int)) = false := decide_eq_false c20
              clear c20
              obtain rfl := Option.some.inj H
              have hnb31 := NB908_909.out
              have hnc31 := NB909_908.out
              have hcz32_0 : wr.cell? ⟨gb908, 0, none⟩ = some (.slice A0_0 l0_0.length c0_0) := (blk_cell BK908.out 0).trans rfl
              have hcz32_1 : wr.cell? ⟨gb908, 1, none⟩ = some (.slice A0_1 l0_1.length c0_1) := (blk_cell BK908.out 1).trans rfl
              have hcz32_2 : wr.cell? ⟨gb908, 2, none⟩ = some (.slice A0_2 l0_2.length c0_2) := (blk_cell BK908.out 2).trans rfl
              have hfz32_0 := blk_frozen BK908.out 0
              have hfz32_1 := blk_frozen BK908.out 1
              have hfz32_2 := blk_frozen BK908.out 2
              go_wp2
              go_ret
              exact ⟨by first | rfl | (simp [errW_none, errW_some] <;> rfl) | (simp [*, errW_none, errW_some] <;> rfl), bl_ HB.out⟩
end Go.Proofs.Yteodlmgmmpkpoaa.PS
end
section
namespace Go.Proofs.Yteodlmgmmpkpoaa.PS
open Go.RowKit Go.Proofs.YteodlmgmmpkpoaaW.PrintWords Go.Proofs.YteodlmgmmpkpoaaW.PrintLast Go.Proofs.YteodlmgmmpkpoaaW.PrintMore
attribute [local go_sem] max2_int min2_int max_two min_two max_three min_three max_four min_four   -- for this text's walks alone
set_option linter.unusedVariables false
set_option linter.unusedSimpArgs false
def swashplateref01_At.j0 : Nat → Int → Int → Bool → List Int → List Int → List (List Int) → Option (Int × Int × Int)
  | 0, _, _, _, _, _, _ => none
  | k + 1, x1, x2, x32, x900000, x900001, x900002 => if x32 = true then (some (0, 0, 1)) else ((swashplateref01_Value.f x900000 x900001 x900002 x1 x2).bind fun bt904 => ((swashplateref01_floor.f bt904.1 bt904.2).bind fun t906 => ((swashplateref01_ceil.f bt904.1 bt904.2).bind fun t907 => (some (t906, t907, 0)))))
def swashplateref01_At.f (k : Nat) (l0_0 : List Int) (l0_1 : List Int) (l0_2 : List (List Int)) (a1 : Int) (a2 : Int) : Option (Int × Int × Int) := (swashplateref01_CheckTable.f k l0_0 l0_1 l0_2).bind fun t901 => (if t901 = 0 then ((swashplateref01_Between.f l0_0 a1 a1).bind fun t902 => (if t902 = true then ((swashplateref01_Between.f l0_1 a2 a2).bind fun t903 => (swashplateref01_At.j0 k a1 a2 (!t903) l0_0 l0_1 l0_2)) else (swashplateref01_At.j0 k a1 a2 true l0_0 l0_1 l0_2))) else (some (0, 0, t901)))
set_option maxHeartbeats 8000000 in
set_option maxRecDepth 100000 in
theorem swashplateref01_At.calls (k : Nat) (A0_0 : Option Addr) (c0_0 : Nat) (l0_0 : List Int) (A0_1 : Option Addr) (c0_1 : Nat) (l0_1 : List Int) (A0_2 : Option Addr) (c0_2 : Nat) (l0_2 : List (List Int)) (a1 : Int) (a2 : Int) (r1 : Int) (r2 : Int) (r3 : Int) (w : World) (hr0_0 : Kd.C (Kd.int .i64) w A0_0 l0_0.length l0_0) (hc0_0 : l0_0.length ≤ c0_0) (hr0_1 : Kd.C (Kd.int .i64) w A0_1 l0_1.length l0_1) (hc0_1 : l0_1.length ≤ c0_1) (hr0_2 : Kd.C (Kd.slice 3 (Kd.int .i64)) w A0_2 l0_2.length l0_2) (hc0_2 : l0_2.length ≤ c0_2) (h : swashplateref01_At.f k l0_0 l0_1 l0_2 a1 a2 = some (r1, r2, r3)) :
    Calls Try.prog 35 #[.agg #[.slice A0_0 l0_0.length c0_0, .slice A0_1 l0_1.length c0_1, .slice A0_2 l0_2.length c0_2], .int .i64 a1, .int .i64 a2] w fun e w' => e = .returned (.tuple #[.agg #[.int .i64 r1, .int .i64 r2], .int .i64 r3]) ∧ Below w.heap.size w w' := by
  have hu25 := Try.underlying25
  have hu27 := Try.underlying27
  have HR0_0 := Aside0.mk hr0_0
  have HC0_0 := Aside0.mk hc0_0
  clear hr0_0 hc0_0
  have HR0_1 := Aside0.mk hr0_1
  have HC0_1 := Aside0.mk hc0_1
  clear hr0_1 hc0_1
  have HR0_2 := Aside0.mk hr0_2
  have HC0_2 := Aside0.mk hc0_2
  clear hr0_2 hc0_2
  have HB := Aside0.mk (Below.refl w.heap.size w)
  have H : ((swashplateref01_CheckTable.f k l0_0 l0_1 l0_2).bind fun t901 => (if t901 = 0 then ((swashplateref01_Between.f l0_0 a1 a1).bind fun t902 => (if t902 = true then ((swashplateref01_Between.f l0_1 a2 a2).bind fun t903 => (swashplateref01_At.j0 k a1 a2 (!t903) l0_0 l0_1 l0_2)) else (swashplateref01_At.j0 k a1 a2 true l0_0 l0_1 l0_2))) else (some (0, 0, t901)))) = some (r1, r2, r3) := h
  clear h
  replace H := Option.bind_eq_some_iff.mp H
  obtain ⟨t901, A40, H⟩ := H
  replace H : (if t901 = 0 then ((swashplateref01_Between.f l0_0 a1 a1).bind fun t902 => (if t902 = true then ((swashplateref01_Between.f l0_1 a2 a2).bind fun t903 => (swashplateref01_At.j0 k a1 a2 (!t903) l0_0 l0_1 l0_2)) else (swashplateref01_At.j0 k a1 a2 true l0_0 l0_1 l0_2))) else (some (0, 0, t901))) = some (r1, r2, r3) := H
  have A4 := Aside0.mk A40
  clear A40
  by_cases c5 : t901 = 0
  · rw [if_pos c5] at H
    have c5b0 : (t901 == 0) = true := beq_iff_eq.mpr c5
    have c5b1 : (t901 != 0) = false := bne_eq_false_iff_eq.mpr c5
    clear c5
    have HC6 := Aside0.mk H
    clear H
    go_enter Try.func35, Try.ntmps35
    go_upto_region 4 with (first | ((with_reducible refine gate_dst (N := 3) rfl ?_); refine box_event ?hg (N := 3) ?hd (cs := #[.slice A0_0 l0_0.length c0_0, .slice A0_1 l0_1.length c0_1, .slice A0_2 l0_2.length c0_2]) (t := 25) ?hr ?_; (case hd => rfl); (case hg => rfl); (case hr => first | (go_simp; done) | (go_simp; rfl)); intro gb899 hg w7 hbox hb; have n0_ := Aside0.mk (below_step (bl_ HB.out) hb); have n1_ := Aside0.mk (hbox); have n2_ := Aside0.mk ((by rw [hg]; exact (below_size (bl_ HB.out)) : w.heap.size ≤ gb899)); have n3_ := Aside0.mk ((by rw [hg]; exact (below_size (bl_ HB.out)) : w.heap.size ≤ gb899)); clear HB; have HB := n0_; have BK899 := n1_; have GW899 := n2_; have GE899 := n3_; clear n0_ n1_ n2_ n3_; clear hb hbox hg) | ((with_reducible refine gate_dst (N := 6) rfl ?_); refine box_event ?hg (N := 6) ?hd (cs := #[.int .i64 0, .int .i64 0]) (t := 27) ?hr ?_; (case hd => rfl); (case hg => rfl); (case hr => first | (go_simp; done) | (go_simp; rfl)); intro gb900 hg w8 hbox hb; have n0_ := Aside0.mk (blk_below (g := gb899) (o := .cells #[.slice A0_0 l0_0.length c0_0, .slice A0_1 l0_1.length c0_1, .slice A0_2 l0_2.length c0_2] 25 (0, 0)) (bk_ BK899.out) hb); have n1_ := Aside0.mk (below_step (bl_ HB.out) hb); have n2_ := Aside0.mk (hbox); have n3_ := Aside0.mk ((by rw [hg]; exact (below_size (bl_ HB.out)) : w.heap.size ≤ gb900)); have n4_ := Aside0.mk ((by rw [hg]; exact (below_size (bl_ HB.out)) : w.heap.size ≤ gb900)); have n5_ := Aside0.mk ((by rw [hg]; exact Nat.ne_of_lt (blk_lt (g := gb899) (o := .cells #[.slice A0_0 l0_0.length c0_0, .slice A0_1 l0_1.length c0_1, .slice A0_2 l0_2.length c0_2] 25 (0, 0)) (bk_ BK899.out)) : gb899 ≠ gb900)); have n6_ := Aside0.mk ((by rw [hg]; exact Nat.ne_of_gt (blk_lt (g := gb899) (o := .cells #[.slice A0_0 l0_0.length c0_0, .slice A0_1 l0_1.length c0_1, .slice A0_2 l0_2.length c0_2] 25 (0, 0)) (bk_ BK899.out)) : gb900 ≠ gb899)); clear BK899; clear HB; have BK899 := n0_; have HB := n1_; have BK900 := n2_; have GW900 := n3_; have GE900 := n4_; have NB899_900 := n5_; have NB900_899 := n6_; clear n0_ n1_ n2_ n3_ n4_ n5_ n6_; clear hb hbox hg; have hnb9 := NB899_900.out; have hnc9 := NB900_899.out; have hcz10_0 : w8.cell? ⟨gb899, 0, none⟩ = some (.slice A0_0 l0_0.length c0_0) := (blk_cell BK899.out 0).trans rfl; have hcz10_1 : w8.cell? ⟨gb899, 1, none⟩ = some (.slice A0_1 l0_1.length c0_1) := (blk_cell BK899.out 1).trans rfl; have hcz10_2 : w8.cell? ⟨gb899, 2, none⟩ = some (.slice A0_2 l0_2.length c0_2) := (blk_cell BK899.out 2).trans rfl; have hfz10_0 := blk_frozen BK899.out 0; have hfz10_1 := blk_frozen BK899.out 1; have hfz10_2 := blk_frozen BK899.out 2) | ((with_reducible refine gate_callee (f := 21) rfl ?_); refine goesL_ (some 12) rfl rfl Try.func21 (by kernel_rfl) rfl #[.agg #[.slice A0_0 l0_0.length c0_0, .slice A0_1 l0_1.length c0_1, .slice A0_2 l0_2.length c0_2]] rfl (by (try simp only [List.map_toArray, List.map_cons, List.map_nil]); first | done | rfl | (simp only [List.length_drop, List.length_take]; rfl)) ?_; (with_reducible refine (swashplateref01_CheckTable.calls k _ _ l0_0 _ _ l0_1 _ _ l0_2 t901 _ ?side1 ?side2 ?side3 ?side4 ?side5 ?side6 A4.out).mono ?_); (case side1 => exact cr_ (Kd.C_below HR0_0.out HB.out)); (case side2 => exact HC0_0.out); (case side3 => exact cr_ (Kd.C_below HR0_1.out HB.out)); (case side4 => exact HC0_1.out); (case side5 => exact cr_ (Kd.C_below HR0_2.out HB.out)); (case side6 => exact HC0_2.out); rintro e w11 ⟨rfl, hb⟩; refine ⟨_, rfl, ?_⟩; have n0_ := Aside0.mk (blk_below (g := gb899) (o := .cells #[.slice A0_0 l0_0.length c0_0, .slice A0_1 l0_1.length c0_1, .slice A0_2 l0_2.length c0_2] 25 (0, 0)) (bk_ BK899.out) hb); have n1_ := Aside0.mk (blk_below (g := gb900) (o := .cells #[.int .i64 0, .int .i64 0] 27 (0, 0)) (bk_ BK900.out) hb); have n2_ := Aside0.mk (below_step (bl_ HB.out) hb); clear BK899; clear BK900; clear HB; have BK899 := n0_; have BK900 := n1_; have HB := n2_; clear n0_ n1_ n2_; (try clear hb); (try clear hb2); (try clear hk); (try clear hi)))
    (try simp only [Act.put, List.setIfInBounds_toArray, List.set_cons_zero, List.set_cons_succ])
    go_cut [32] (fun v32 wc => ∃ (kq : Nat) (x32_5 : Bool), v32 = .bool x32_5 ∧ Aside0 (swashplateref01_At.j0 kq a1 a2 x32_5 l0_0 l0_1 l0_2 = some (r1, r2, r3)) ∧ Aside0 (kq ≤ k) ∧ Aside0 (wc.heap[gb899]? = some (.cells #[(.slice A0_0 l0_0.length c0_0), (.slice A0_1 l0_1.length c0_1), (.slice A0_2 l0_2.length c0_2)] 25 (0, 0))) ∧ Aside0 (wc.heap[gb900]? = some (.cells #[.int .i64 0, .int .i64 0] 27 (0, 0))) ∧ Aside0 (Below w.heap.size w wc))
    case first =>
      have H := HC6.out
      clear HC6
      replace H := Option.bind_eq_some_iff.mp H
      obtain ⟨t902, A120, H⟩ := H
      replace H : (if t902 = true then ((swashplateref01_Between.f l0_1 a2 a2).bind fun t903 => (swashplateref01_At.j0 k a1 a2 (!t903) l0_0 l0_1 l0_2)) else (swashplateref01_At.j0 k a1 a2 true l0_0 l0_1 l0_2)) = some (r1, r2, r3) := H
      have A12 := Aside0.mk A120
      clear A120
      by_cases c13 : t902 = true
      · subst c13
        have H1 : ((swashplateref01_Between.f l0_1 a2 a2).bind fun t903 => (swashplateref01_At.j0 k a1 a2 (!t903) l0_0 l0_1 l0_2)) = some (r1, r2, r3) := by rw [if_pos rfl] at H; exact H
        clear H
        have H := H1
        clear H1
        replace H := Option.bind_eq_some_iff.mp H
        obtain ⟨t903, A140, H⟩ := H
        replace H : (swashplateref01_At.j0 k a1 a2 (!t903) l0_0 l0_1 l0_2) = some (r1, r2, r3) := H
        have A14 := Aside0.mk A140
        clear A140
        have H' := Aside0.mk H
        clear H
        have hnb15 := NB899_900.out
        have hnc15 := NB900_899.out
        have hcz16_0 : w11.cell? ⟨gb899, 0, none⟩ = some (.slice A0_0 l0_0.length c0_0) := (blk_cell BK899.out 0).trans rfl
        have hcz16_1 : w11.cell? ⟨gb899, 1, none⟩ = some (.slice A0_1 l0_1.length c0_1) := (blk_cell BK899.out 1).trans rfl
        have hcz16_2 : w11.cell? ⟨gb899, 2, none⟩ = some (.slice A0_2 l0_2.length c0_2) := (blk_cell BK899.out 2).trans rfl
        have hfz16_0 := blk_frozen BK899.out 0
        have hfz16_1 := blk_frozen BK899.out 1
        have hfz16_2 := blk_frozen BK899.out 2
        go_wp2_with (first | ((with_reducible refine gate_callee (f := 91) rfl ?_); refine goesL_ (some 22) rfl rfl Try.func91 (by kernel_rfl) rfl #[.slice A0_0 l0_0.length c0_0, .agg #[.int .i64 a1, .int .i64 a1]] rfl (by (try simp only [List.map_toArray, List.map_cons, List.map_nil]); first | done | rfl | (simp only [List.length_drop, List.length_take]; rfl)) ?_; (with_reducible refine (swashplateref01_Between.calls _ _ l0_0 a1 a1 true _ ?side1 ?side2 A12.out).mono ?_); (case side1 => exact cr_ (Kd.C_below HR0_0.out HB.out)); (case side2 => exact HC0_0.out); rintro e w17 ⟨rfl, hb⟩; refine ⟨_, rfl, ?_⟩; have n0_ := Aside0.mk (blk_below (g := gb899) (o := .cells #[.slice A0_0 l0_0.length c0_0, .slice A0_1 l0_1.length c0_1, .slice A0_2 l0_2.length c0_2] 25 (0, 0)) (bk_ BK899.out) hb); have n1_ := Aside0.mk (blk_below (g := gb900) (o := .cells #[.int .i64 0, .int .i64 0] 27 (0, 0)) (bk_ BK900.out) hb); have n2_ := Aside0.mk (below_step (bl_ HB.out) hb); clear BK899; clear BK900; clear HB; have BK899 := n0_; have BK900 := n1_; have HB := n2_; clear n0_ n1_ n2_; (try clear hb); (try clear hb2); (try clear hk); (try clear hi); have hcz18_0 : w17.cell? ⟨gb899, 0, none⟩ = some (.slice A0_0 l0_0.length c0_0) := (blk_cell BK899.out 0).trans rfl; have hcz18_1 : w17.cell? ⟨gb899, 1, none⟩ = some (.slice A0_1 l0_1.length c0_1) := (blk_cell BK899.out 1).trans rfl; have hcz18_2 : w17.cell? ⟨gb899, 2, none⟩ = some (.slice A0_2 l0_2.length c0_2) := (blk_cell BK899.out 2).trans rfl; have hfz18_0 := blk_frozen BK899.out 0; have hfz18_1 := blk_frozen BK899.out 1; have hfz18_2 := blk_frozen BK899.out 2) | (go_at_call 91; (with_reducible refine (swashplateref01_Between.calls _ _ l0_1 a2 a2 t903 _ ?side1 ?side2 A14.out).mono ?_); (case side1 => exact cr_ (Kd.C_below HR0_1.out HB.out)); (case side2 => exact HC0_1.out); rintro e w19 ⟨rfl, hb⟩; have n0_ := Aside0.mk (blk_below (g := gb899) (o := .cells #[.slice A0_0 l0_0.length c0_0, .slice A0_1 l0_1.length c0_1, .slice A0_2 l0_2.length c0_2] 25 (0, 0)) (bk_ BK899.out) hb); have n1_ := Aside0.mk (blk_below (g := gb900) (o := .cells #[.int .i64 0, .int .i64 0] 27 (0, 0)) (bk_ BK900.out) hb); have n2_ := Aside0.mk (below_step (bl_ HB.out) hb); clear BK899; clear BK900; clear HB; have BK899 := n0_; have BK900 := n1_; have HB := n2_; clear n0_ n1_ n2_; (try clear hb); (try clear hb2); (try clear hk); (try clear hi)))
        go_meet
        case rel => exact ⟨_, (!t903), (by first | rfl | (simp; done) | (simp [*]; done)), H', ⟨by first | omega | exact Nat.le_refl _⟩, ⟨bk_ BK899.out⟩, ⟨bk_ BK900.out⟩, ⟨bl_ HB.out⟩⟩
      · replace c13 := Bool.eq_false_iff.mpr c13
        subst c13
        have H1 : (swashplateref01_At.j0 k a1 a2 true l0_0 l0_1 l0_2) = some (r1, r2, r3) := by rw [if_neg (show ¬ (false = true) by decide)] at H; exact H
        clear H
        have H := H1
        clear H1
        have H' := Aside0.mk H
        clear H
        have hnb20 := NB899_900.out
        have hnc20 := NB900_899.out
        have hcz21_0 : w11.cell? ⟨gb899, 0, none⟩ = some (.slice A0_0 l0_0.length c0_0) := (blk_cell BK899.out 0).trans rfl
        have hcz21_1 : w11.cell? ⟨gb899, 1, none⟩ = some (.slice A0_1 l0_1.length c0_1) := (blk_cell BK899.out 1).trans rfl
        have hcz21_2 : w11.cell? ⟨gb899, 2, none⟩ = some (.slice A0_2 l0_2.length c0_2) := (blk_cell BK899.out 2).trans rfl
        have hfz21_0 := blk_frozen BK899.out 0
        have hfz21_1 := blk_frozen BK899.out 1
        have hfz21_2 := blk_frozen BK899.out 2
        go_wp2_with (first | ((with_reducible refine gate_callee (f := 91) rfl ?_); refine goesL_ (some 22) rfl rfl Try.func91 (by kernel_rfl) rfl #[.slice A0_0 l0_0.length c0_0, .agg #[.int .i64 a1, .int .i64 a1]] rfl (by (try simp only [List.map_toArray, List.map_cons, List.map_nil]); first | done | rfl | (simp only [List.length_drop, List.length_take]; rfl)) ?_; (with_reducible refine (swashplateref01_Between.calls _ _ l0_0 a1 a1 false _ ?side1 ?side2 A12.out).mono ?_); (case side1 => exact cr_ (Kd.C_below HR0_0.out HB.out)); (case side2 => exact HC0_0.out); rintro e w22 ⟨rfl, hb⟩; refine ⟨_, rfl, ?_⟩; have n0_ := Aside0.mk (blk_below (g := gb899) (o := .cells #[.slice A0_0 l0_0.length c0_0, .slice A0_1 l0_1.length c0_1, .slice A0_2 l0_2.length c0_2] 25 (0, 0)) (bk_ BK899.out) hb); have n1_ := Aside0.mk (blk_below (g := gb900) (o := .cells #[.int .i64 0, .int .i64 0] 27 (0, 0)) (bk_ BK900.out) hb); have n2_ := Aside0.mk (below_step (bl_ HB.out) hb); clear BK899; clear BK900; clear HB; have BK899 := n0_; have BK900 := n1_; have HB := n2_; clear n0_ n1_ n2_; (try clear hb); (try clear hb2); (try clear hk); (try clear hi)))
        go_meet
        case rel => exact ⟨_, (true), (by first | rfl | (simp; done) | (simp [*]; done)), H', ⟨by first | omega | exact Nat.le_refl _⟩, ⟨bk_ BK899.out⟩, ⟨bk_ BK900.out⟩, ⟨bl_ HB.out⟩⟩
    case rest =>
      clear HC6
      try clear c1
      try clear c2
      try clear p2
      try clear c3
      try clear c5
      try clear c5b0
      try clear c5b1
      try clear c9
      try clear c13
      try clear c15
      try clear c20
      try clear c21
      try clear hcz10_0
      try clear hcz10_1
      try clear hcz10_2
      try clear hcz16_0
      try clear hcz16_1
      try clear hcz16_2
      try clear hcz18_0
      try clear hcz18_1
      try clear hcz18_2
      try clear hcz21_0
      try clear hcz21_1
      try clear hcz21_2
      try clear hfz10_0
      try clear hfz10_1
      try clear hfz10_2
      try clear hfz16_0
      try clear hfz16_1
      try clear hfz16_2
      try clear hfz18_0
      try clear hfz18_1
      try clear hfz18_2
      try clear hfz21_0
      try clear hfz21_1
      try clear hfz21_2
      obtain ⟨kq, x32_5, rfl, HA, HJ5, BK899, BK900, HB⟩ := hcut
      cases kq with
      | zero => exact absurd HA.out (by simp [swashplateref01_At.j0])
      | succ kj5 =>
        have H := HA.out
        clear HA
        simp only [swashplateref01_At.j0] at H
        by_cases c23 : x32_5 = true
        · subst c23
          have H1 : (some (0, 0, 1)) = some (r1, r2, r3) := by rw [if_pos rfl] at H; exact H
          clear H
          have H := H1
          clear H1
          simp only [Option.some.injEq, Prod.mk.injEq] at H
          obtain ⟨rfl, rfl, rfl⟩ := H
          have hnb24 := NB900_899.out
          have hnc24 := NB899_900.out
          have hcz25_0 : wc.cell? ⟨gb900, 0, none⟩ = some (.int .i64 0) := (blk_cell BK900.out 0).trans rfl
          have hcz25_1 : wc.cell? ⟨gb900, 1, none⟩ = some (.int .i64 0) := (blk_cell BK900.out 1).trans rfl
          have hfz25_0 := blk_frozen BK900.out 0
          have hfz25_1 := blk_frozen BK900.out 1
          go_wp2
          refine bodyPost_ret (results_ct rfl _ _ gb900 27 #[.int .i64 0, .int .i64 0] (0, 0) _ rfl (by (with_reducible repeat (first | refine blk_drewN ?_ _ | refine blk_drew ?_ | refine blk_alloc ?_ _)); refine blk_put (cs := #[.int .i64 0, .int .i64 0]) ?_ 1 _ rfl; (with_reducible repeat (first | refine blk_drewN ?_ _ | refine blk_drew ?_ | refine blk_alloc ?_ _)); refine blk_put (cs := #[.int .i64 0, .int .i64 0]) ?_ 0 _ rfl; (with_reducible repeat (first | refine blk_drewN ?_ _ | refine blk_drew ?_ | refine blk_alloc ?_ _)); exact BK900.out) Try.underlying27 rfl (by kernel_rfl)) rfl ?_
          exact ⟨by first | rfl | (simp [errW_none, errW_some] <;> rfl) | (simp [*, errW_none, errW_some] <;> rfl), bl_ HB.out⟩
        · replace c23 := Bool.eq_false_iff.mpr c23
          subst c23
          have H1 : ((swashplateref01_Value.f l0_0 l0_1 l0_2 a1 a2).bind fun bt904 => ((swashplateref01_floor.f bt904.1 bt904.2).bind fun t906 => ((swashplateref01_ceil.f bt904.1 bt904.2).bind fun t907 => (some (t906, t907, 0))))) = some (r1, r2, r3) := by rw [if_neg (show ¬ (false = true) by decide)] at H; exact H
          clear H
          have H := H1
          clear H1
          replace H := Option.bind_eq_some_iff.mp H
          obtain ⟨⟨t904, t905⟩, A260, H⟩ := H
          replace H : ((swashplateref01_floor.f t904 t905).bind fun t906 => ((swashplateref01_ceil.f t904 t905).bind fun t907 => (some (t906, t907, 0)))) = some (r1, r2, r3) := H
          have A26 := Aside0.mk A260
          clear A260
          replace H := Option.bind_eq_some_iff.mp H
          obtain ⟨t906, A270, H⟩ := H
          replace H : ((swashplateref01_ceil.f t904 t905).bind fun t907 => (some (t906, t907, 0))) = some (r1, r2, r3) := H
          have A27 := Aside0.mk A270
          clear A270
          replace H := Option.bind_eq_some_iff.mp H
          obtain ⟨t907, A280, H⟩ := H
          replace H : (some (t906, t907, 0)) = some (r1, r2, r3) := H
          have A28 := Aside0.mk A280
          clear A280
          simp only [Option.some.injEq, Prod.mk.injEq] at H
          obtain ⟨rfl, rfl, rfl⟩ := H
          have hnb29 := NB899_900.out
          have hnc29 := NB900_899.out
          have hcz30_0 : wc.cell? ⟨gb899, 0, none⟩ = some (.slice A0_0 l0_0.length c0_0) := (blk_cell BK899.out 0).trans rfl
          have hcz30_1 : wc.cell? ⟨gb899, 1, none⟩ = some (.slice A0_1 l0_1.length c0_1) := (blk_cell BK899.out 1).trans rfl
          have hcz30_2 : wc.cell? ⟨gb899, 2, none⟩ = some (.slice A0_2 l0_2.length c0_2) := (blk_cell BK899.out 2).trans rfl
          have hfz30_0 := blk_frozen BK899.out 0
          have hfz30_1 := blk_frozen BK899.out 1
          have hfz30_2 := blk_frozen BK899.out 2
          go_wp2_with (first | ((with_reducible refine gate_callee (f := 102) rfl ?_); refine goesL_ (some 38) rfl rfl Try.func102 (by kernel_rfl) rfl #[.agg #[.slice A0_0 l0_0.length c0_0, .slice A0_1 l0_1.length c0_1, .slice A0_2 l0_2.length c0_2], .int .i64 a1, .int .i64 a2] rfl (by (try simp only [List.map_toArray, List.map_cons, List.map_nil]); first | done | rfl | (simp only [List.length_drop, List.length_take]; rfl)) ?_; (with_reducible refine (swashplateref01_Value.calls _ _ l0_0 _ _ l0_1 _ _ l0_2 a1 a2 t904 t905 _ ?side1 ?side2 ?side3 ?side4 ?side5 ?side6 A26.out).mono ?_); (case side1 => exact cr_ (Kd.C_below HR0_0.out HB.out)); (case side2 => exact HC0_0.out); (case side3 => exact cr_ (Kd.C_below HR0_1.out HB.out)); (case side4 => exact HC0_1.out); (case side5 => exact cr_ (Kd.C_below HR0_2.out HB.out)); (case side6 => exact HC0_2.out); rintro e w31 ⟨rfl, hb⟩; refine ⟨_, rfl, ?_⟩; have n0_ := Aside0.mk (blk_below (g := gb899) (o := .cells #[.slice A0_0 l0_0.length c0_0, .slice A0_1 l0_1.length c0_1, .slice A0_2 l0_2.length c0_2] 25 (0, 0)) (bk_ BK899.out) hb); have n1_ := Aside0.mk (blk_below (g := gb900) (o := .cells #[.int .i64 0, .int .i64 0] 27 (0, 0)) (bk_ BK900.out) hb); have n2_ := Aside0.mk (below_step (bl_ HB.out) hb); clear BK899; clear BK900; clear HB; have BK899 := n0_; have BK900 := n1_; have HB := n2_; clear n0_ n1_ n2_; (try clear hb); (try clear hb2); (try clear hk); (try clear hi)) | ((with_reducible refine gate_callee (f := 107) rfl ?_); refine goesL_ (some 43) rfl rfl Try.func107 (by kernel_rfl) rfl #[.int .i64 t904, .int .i64 t905] rfl (by (try simp only [List.map_toArray, List.map_cons, List.map_nil]); first | done | rfl | (simp only [List.length_drop, List.length_take]; rfl)) ?_; (with_reducible refine (swashplateref01_floor.calls t904 t905 t906 _ A27.out).mono ?_); rintro e w' ⟨rfl, ⟨nd, rfl⟩⟩; refine ⟨_, rfl, ?_⟩; (try (rw [drewN_self w31]; generalize hq_ : World.drewN w31 _ = w31; have n0_ : Aside0 (w31.heap[gb899]? = some (.cells #[.slice A0_0 l0_0.length c0_0, .slice A0_1 l0_1.length c0_1, .slice A0_2 l0_2.length c0_2] 25 (0, 0))) := ⟨by rw [← hq_]; exact (bk_ BK899.out)⟩; have n1_ : Aside0 (w31.heap[gb900]? = some (.cells #[.int .i64 0, .int .i64 0] 27 (0, 0))) := ⟨by rw [← hq_]; exact (bk_ BK900.out)⟩; have n2_ : Aside0 (Below w.heap.size w w31) := ⟨by rw [← hq_]; exact (bl_ HB.out)⟩; clear BK899 BK900 HB hq_; have BK899 := n0_; have BK900 := n1_; have HB := n2_; clear n0_ n1_ n2_))) | ((with_reducible refine gate_callee (f := 108) rfl ?_); refine goesL_ (some 46) rfl rfl Try.func108 (by kernel_rfl) rfl #[.int .i64 t904, .int .i64 t905] rfl (by (try simp only [List.map_toArray, List.map_cons, List.map_nil]); first | done | rfl | (simp only [List.length_drop, List.length_take]; rfl)) ?_; (with_reducible refine (swashplateref01_ceil.calls t904 t905 t907 _ A28.out).mono ?_); rintro e w' ⟨rfl, ⟨nd, rfl⟩⟩; refine ⟨_, rfl, ?_⟩; (try (rw [drewN_self w31]; generalize hq_ : World.drewN w31 _ = w31; have n0_ : Aside0 (w31.heap[gb899]? = some (.cells #[.slice A0_0 l0_0.length c0_0, .slice A0_1 l0_1.length c0_1, .slice A0_2 l0_2.length c0_2] 25 (0, 0))) := ⟨by rw [← hq_]; exact (bk_ BK899.out)⟩; have n1_ : Aside0 (w31.heap[gb900]? = some (.cells #[.int .i64 0, .int .i64 0] 27 (0, 0))) := ⟨by rw [← hq_]; exact (bk_ BK900.out)⟩; have n2_ : Aside0 (Below w.heap.size w w31) := ⟨by rw [← hq_]; exact (bl_ HB.out)⟩; clear BK899 BK900 HB hq_; have BK899 := n0_; have BK900 := n1_; have HB := n2_; clear n0_ n1_ n2_)); have hcz32_0 : w31.cell? ⟨gb900, 0, none⟩ = some (.int .i64 0) := (blk_cell BK900.out 0).trans rfl; have hcz32_1 : w31.cell? ⟨gb900, 1, none⟩ = some (.int .i64 0) := (blk_cell BK900.out 1).trans rfl; have hfz32_0 := blk_frozen BK900.out 0; have hfz32_1 := blk_frozen BK900.out 1))
          refine bodyPost_ret (results_ct rfl _ _ gb900 27 #[.int .i64 t906, .int .i64 t907] (0, 0) _ rfl (by (with_reducible repeat (first | refine blk_drewN ?_ _ | refine blk_drew ?_ | refine blk_alloc ?_ _)); refine blk_put (cs := #[.int .i64 t906, .int .i64 0]) ?_ 1 _ rfl; (with_reducible repeat (first | refine blk_drewN ?_ _ | refine blk_drew ?_ | refine blk_alloc ?_ _)); refine blk_put (cs := #[.int .i64 0, .int .i64 0]) ?_ 0 _ rfl; (with_reducible repeat (first | refine blk_drewN ?_ _ | refine blk_drew ?_ | refine blk_alloc ?_ _)); exact BK900.out) Try.underlying27 rfl (by kernel_rfl)) rfl ?_
          exact ⟨by first | rfl | (simp [errW_none, errW_some] <;> rfl) | (simp [*, errW_none, errW_some] <;> rfl), bl_ HB.out⟩
  · rw [if_neg c5] at H
    have c5b0 : (t901 == 0) = false := beq_eq_false_iff_ne.mpr c5
    have c5b1 : (t901 != 0) = true := bne_iff_ne.mpr c5
    simp only [Option.some.injEq, Prod.mk.injEq] at H
    obtain ⟨rfl, rfl, rfl⟩ := H
    go_enter Try.func35, Try.ntmps35
    go_wp2_with (first | ((with_reducible refine gate_dst (N := 3) rfl ?_); refine box_event ?hg (N := 3) ?hd (cs := #[.slice A0_0 l0_0.length c0_0, .slice A0_1 l0_1.length c0_1, .slice A0_2 l0_2.length c0_2]) (t := 25) ?hr ?_; (case hd => rfl); (case hg => rfl); (case hr => first | (go_simp; done) | (go_simp; rfl)); intro gb899 hg w33 hbox hb; have n0_ := Aside0.mk (below_step (bl_ HB.out) hb); have n1_ := Aside0.mk (hbox); have n2_ := Aside0.mk ((by rw [hg]; exact (below_size (bl_ HB.out)) : w.heap.size ≤ gb899)); have n3_ := Aside0.mk ((by rw [hg]; exact (below_size (bl_ HB.out)) : w.heap.size ≤ gb899)); clear HB; have HB := n0_; have BK899 := n1_; have GW899 := n2_; have GE899 := n3_; clear n0_ n1_ n2_ n3_; clear hb hbox hg) | ((with_reducible refine gate_dst (N := 6) rfl ?_); refine box_event ?hg (N := 6) ?hd (cs := #[.int .i64 0, .int .i64 0]) (t := 27) ?hr ?_; (case hd => rfl); (case hg => rfl); (case hr => first | (go_simp; done) | (go_simp; rfl)); intro gb900 hg w34 hbox hb; have n0_ := Aside0.mk (blk_below (g := gb899) (o := .cells #[.slice A0_0 l0_0.length c0_0, .slice A0_1 l0_1.length c0_1, .slice A0_2 l0_2.length c0_2] 25 (0, 0)) (bk_ BK899.out) hb); have n1_ := Aside0.mk (below_step (bl_ HB.out) hb); have n2_ := Aside0.mk (hbox); have n3_ := Aside0.mk ((by rw [hg]; exact (below_size (bl_ HB.out)) : w.heap.size ≤ gb900)); have n4_ := Aside0.mk ((by rw [hg]; exact (below_size (bl_ HB.out)) : w.heap.size ≤ gb900)); have n5_ := Aside0.mk ((by rw [hg]; exact Nat.ne_of_lt (blk_lt (g := gb899) (o := .cells #[.slice A0_0 l0_0.length c0_0, .slice A0_1 l0_1.length c0_1, .slice A0_2 l0_2.length c0_2] 25 (0, 0)) (bk_ BK899.out)) : gb899 ≠ gb900)); have n6_ := Aside0.mk ((by rw [hg]; exact Nat.ne_of_gt (blk_lt (g := gb899) (o := .cells #[.slice A0_0 l0_0.length c0_0, .slice A0_1 l0_1.length c0_1, .slice A0_2 l0_2.length c0_2] 25 (0, 0)) (bk_ BK899.out)) : gb900 ≠ gb899)); clear BK899; clear HB; have BK899 := n0_; have HB := n1_; have BK900 := n2_; have GW900 := n3_; have GE900 := n4_; have NB899_900 := n5_; have NB900_899 := n6_; clear n0_ n1_ n2_ n3_ n4_ n5_ n6_; clear hb hbox hg; have hnb35 := NB899_900.out; have hnc35 := NB900_899.out; have hcz36_0 : w34.cell? ⟨gb899, 0, none⟩ = some (.slice A0_0 l0_0.length c0_0) := (blk_cell BK899.out 0).trans rfl; have hcz36_1 : w34.cell? ⟨gb899, 1, none⟩ = some (.slice A0_1 l0_1.length c0_1) := (blk_cell BK899.out 1).trans rfl; have hcz36_2 : w34.cell? ⟨gb899, 2, none⟩ = some (.slice A0_2 l0_2.length c0_2) := (blk_cell BK899.out 2).trans rfl; have hfz36_0 := blk_frozen BK899.out 0; have hfz36_1 := blk_frozen BK899.out 1; have hfz36_2 := blk_frozen BK899.out 2) | ((with_reducible refine gate_callee (f := 21) rfl ?_); refine goesL_ (some 12) rfl rfl Try.func21 (by kernel_rfl) rfl #[.agg #[.slice A0_0 l0_0.length c0_0, .slice A0_1 l0_1.length c0_1, .slice A0_2 l0_2.length c0_2]] rfl (by (try simp only [List.map_toArray, List.map_cons, List.map_nil]); first | done | rfl | (simp only [List.length_drop, List.length_take]; rfl)) ?_; (with_reducible refine (swashplateref01_CheckTable.calls k _ _ l0_0 _ _ l0_1 _ _ l0_2 t901 _ ?side1 ?side2 ?side3 ?side4 ?side5 ?side6 A4.out).mono ?_); (case side1 => exact cr_ (Kd.C_below HR0_0.out HB.out)); (case side2 => exact HC0_0.out); (case side3 => exact cr_ (Kd.C_below HR0_1.out HB.out)); (case side4 => exact HC0_1.out); (case side5 => exact cr_ (Kd.C_below HR0_2.out HB.out)); (case side6 => exact HC0_2.out); rintro e w37 ⟨rfl, hb⟩; refine ⟨_, rfl, ?_⟩; have n0_ := Aside0.mk (blk_below (g := gb899) (o := .cells #[.slice A0_0 l0_0.length c0_0, .slice A0_1 l0_1.length c0_1, .slice A0_2 l0_2.length c0_2] 25 (0, 0)) (bk_ BK899.out) hb); have n1_ := Aside0.mk (blk_below (g := gb900) (o := .cells #[.int .i64 0, .int .i64 0] 27 (0, 0)) (bk_ BK900.out) hb); have n2_ := Aside0.mk (below_step (bl_ HB.out) hb); clear BK899; clear BK900; clear HB; have BK899 := n0_; have BK900 := n1_; have HB := n2_; clear n0_ n1_ n2_; (try clear hb); (try clear hb2); (try clear hk); (try clear hi); have hcz38_0 : w37.cell? ⟨gb900, 0, none⟩ = some (.int .i64 0) := (blk_cell BK900.out 0).trans rfl; have hcz38_1 : w37.cell? ⟨gb900, 1, none⟩ = some (.int .i64 0) := (blk_cell BK900.out 1).trans rfl; have hfz38_0 := blk_frozen BK900.out 0; have hfz38_1 := blk_frozen BK900.out 1))
    refine bodyPost_ret (results_ct rfl _ _ gb900 27 #[.int .i64 0, .int .i64 0] (0, 0) _ rfl (by (with_reducible repeat (first | refine blk_drewN ?_ _ | refine blk_drew ?_ | refine blk_alloc ?_ _)); refine blk_put (cs := #[.int .i64 0, .int .i64 0]) ?_ 1 _ rfl; (with_reducible repeat (first | refine blk_drewN ?_ _ | refine blk_drew ?_ | refine blk_alloc ?_ _)); refine blk_put (cs := #[.int .i64 0, .int .i64 0]) ?_ 0 _ rfl; (with_reducible repeat (first | refine blk_drewN ?_ _ | refine blk_drew ?_ | refine blk_alloc ?_ _)); exact BK900.out) Try.underlying27 rfl (by kernel_rfl)) rfl ?_
    exact ⟨by first | rfl | (simp [errW_none, errW_some] <;> rfl) | (simp [*, errW_none, errW_some] <;> rfl), bl_ HB.out⟩
end Go.Proofs.Yteodlmgmmpkpoaa.PS
end
