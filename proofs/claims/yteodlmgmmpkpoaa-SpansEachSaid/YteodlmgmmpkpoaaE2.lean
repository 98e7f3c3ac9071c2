-- Printed by a program of this session out of the translation (hybrid print) and out of hand proofs. Not trusted: Lean checks it.
import Derived.Test.YteodlmgmmpkpoaaE1
section
namespace Go.Proofs.Yteodlmgmmpkpoaa.PS
open Go.RowKit Go.Proofs.YteodlmgmmpkpoaaW.PrintWords Go.Proofs.YteodlmgmmpkpoaaW.PrintLast Go.Proofs.YteodlmgmmpkpoaaW.PrintMore
attribute [local go_sem] max2_int min2_int max_two min_two max_three min_three max_four min_four   -- for this text's walks alone
set_option linter.unusedVariables false
set_option linter.unusedSimpArgs false
mutual
def swashplatelaw01_SpansEach.j0 : Nat → Bool → Int → Int → Int → Int → Int → Int → Int → Int → Option (Bool)
  | 0, _, _, _, _, _, _, _, _, _ => none
  | k + 1, x24, x1081000, x1081001, x1082000, x1082001, x1083000, x1083001, x1083002, x1083003 => if x24 = true then ((swashplatelaw01_works.f k).bind fun t1085 => (some t1085)) else ((swashplatelaw01_within.f x1083000 x1081000 x1081001).bind fun t1086 => ((swashplatelaw01_within.f x1083001 x1082000 x1082001).bind fun t1087 => ((spans_Add.f x1081000 x1081001 x1082000 x1082001).bind fun bt1088 => ((spans_Times.f x1081000 x1081001 x1082000 x1082001).bind fun bt1092 => (if bt1088.2.2 = 0 then (if (wrap64 (t1086 + t1087)) < bt1088.1 then (swashplatelaw01_SpansEach.j1 k t1086 t1087 bt1092.2.2 true x1081000 x1081001 x1082000 x1082001 x1083000 x1083001 x1083002 x1083003 bt1092.1 bt1092.2.1) else (if (wrap64 (t1086 + t1087)) > bt1088.2.1 then (swashplatelaw01_SpansEach.j1 k t1086 t1087 bt1092.2.2 true x1081000 x1081001 x1082000 x1082001 x1083000 x1083001 x1083002 x1083003 bt1092.1 bt1092.2.1) else (if bt1088.1 = (wrap64 (x1081000 + x1082000)) then (if bt1088.2.1 = (wrap64 (x1081001 + x1082001)) then (swashplatelaw01_SpansEach.j1 k t1086 t1087 bt1092.2.2 false x1081000 x1081001 x1082000 x1082001 x1083000 x1083001 x1083002 x1083003 bt1092.1 bt1092.2.1) else (swashplatelaw01_SpansEach.j1 k t1086 t1087 bt1092.2.2 true x1081000 x1081001 x1082000 x1082001 x1083000 x1083001 x1083002 x1083003 bt1092.1 bt1092.2.1)) else (swashplatelaw01_SpansEach.j1 k t1086 t1087 bt1092.2.2 true x1081000 x1081001 x1082000 x1082001 x1083000 x1083001 x1083002 x1083003 bt1092.1 bt1092.2.1)))) else (swashplatelaw01_SpansEach.j1 k t1086 t1087 bt1092.2.2 (bt1088.2.2 != 2) x1081000 x1081001 x1082000 x1082001 x1083000 x1083001 x1083002 x1083003 bt1092.1 bt1092.2.1))))))
def swashplatelaw01_SpansEach.j1 : Nat → Int → Int → Int → Bool → Int → Int → Int → Int → Int → Int → Int → Int → Int → Int → Option (Bool)
  | 0, _, _, _, _, _, _, _, _, _, _, _, _, _, _ => none
  | k + 1, x7, x8, x12, x91, x1081000, x1081001, x1082000, x1082001, x1083000, x1083001, x1083002, x1083003, x1096000, x1096001 => if x91 = true then (some false) else (if x12 = 0 then (if (wrap64 (x7 * x8)) < x1096000 then (swashplatelaw01_SpansEach.j2 k x7 true x1081000 x1081001 x1083000 x1083001 x1083002 x1083003) else (if (wrap64 (x7 * x8)) > x1096001 then (swashplatelaw01_SpansEach.j2 k x7 true x1081000 x1081001 x1083000 x1083001 x1083002 x1083003) else ((swashplatelaw01_product.f x1096000 x1081000 x1081001 x1082000 x1082001).bind fun t1096 => (if t1096 = true then ((swashplatelaw01_product.f x1096001 x1081000 x1081001 x1082000 x1082001).bind fun t1097 => (if t1097 = true then (swashplatelaw01_SpansEach.j2 k x7 false x1081000 x1081001 x1083000 x1083001 x1083002 x1083003) else (swashplatelaw01_SpansEach.j2 k x7 true x1081000 x1081001 x1083000 x1083001 x1083002 x1083003))) else (swashplatelaw01_SpansEach.j2 k x7 true x1081000 x1081001 x1083000 x1083001 x1083002 x1083003))))) else (swashplatelaw01_SpansEach.j2 k x7 (x12 != 2) x1081000 x1081001 x1083000 x1083001 x1083002 x1083003))
def swashplatelaw01_SpansEach.j2 : Nat → Int → Bool → Int → Int → Int → Int → Int → Int → Option (Bool)
  | 0, _, _, _, _, _, _, _, _ => none
  | k + 1, x7, x133, x1081000, x1081001, x1083000, x1083001, x1083002, x1083003 => if x133 = true then (some false) else ((swashplatelaw01_within.f x1083002 0 1000).bind fun t1098 => ((swashplatelaw01_within.f x1083003 1 1000).bind fun t1099 => ((spans_Part.f k x1081000 x1081001 t1098 t1099).bind fun bt1100 => (if bt1100.2.2 = 0 then (if (wrap64 (bt1100.1 * t1099)) ≤ (wrap64 (x7 * t1098)) then (if (wrap64 (x7 * t1098)) ≤ (wrap64 (bt1100.2.1 * t1099)) then ((swashplatelaw01_works.f k).bind fun t1104 => (some t1104)) else (some false)) else (some false)) else (if bt1100.2.2 = 2 then ((swashplatelaw01_works.f k).bind fun t1105 => (some t1105)) else (some false))))))
end
def swashplatelaw01_SpansEach.f (k : Nat) (a0_0 : Int) (a0_1 : Int) (a1_0 : Int) (a1_1 : Int) (a2_0 : Int) (a2_1 : Int) (a2_2 : Int) (a2_3 : Int) : Option (Bool) := (swashplateref01_Valid.f a0_0 a0_1).bind fun t1083 => (if t1083 = true then ((swashplateref01_Valid.f a1_0 a1_1).bind fun t1084 => (swashplatelaw01_SpansEach.j0 k (!t1084) a0_0 a0_1 a1_0 a1_1 a2_0 a2_1 a2_2 a2_3)) else (swashplatelaw01_SpansEach.j0 k true a0_0 a0_1 a1_0 a1_1 a2_0 a2_1 a2_2 a2_3))
def swashplatelaw01_SpansEach.T3 : Bool × List (List Nat × List Nat) := (true, [([], []), ([0], [0]), ([], []), ([1, 2], [1, 2]), ([], []), ([4], [4]), ([], []), ([5, 6, 3], [5, 6]), ([3, 7, 0, 1, 2, 3], [3]), ([7, 8, 0, 1, 2, 3, 4, 5, 6, 7, 8], [7])])
def swashplatelaw01_SpansEach.B3 : List Nat := [0, 1, 0, 7, 0, 16, 0, 127, 255, 511]
theorem swashplatelaw01_SpansEach.tab3 : rtab .any (opsOf Try.f12 3) = swashplatelaw01_SpansEach.T3 := by kernel_rfl
theorem swashplatelaw01_SpansEach.bits3 : waitsOk swashplatelaw01_SpansEach.T3.2 swashplatelaw01_SpansEach.B3 = true := by kernel_rfl
def swashplatelaw01_SpansEach.T10 : Bool × List (List Nat × List Nat) := (true, [([], []), ([0], [0]), ([], []), ([1, 2], [1, 2]), ([], []), ([4], [4]), ([], []), ([5, 6, 3], [5, 6]), ([3, 7, 0, 1, 2, 3], [3]), ([7, 8, 0, 1, 2, 3, 4, 5, 6, 7, 8], [7])])
def swashplatelaw01_SpansEach.B10 : List Nat := [0, 1, 0, 7, 0, 16, 0, 127, 255, 511]
theorem swashplatelaw01_SpansEach.tab10 : rtab .any (opsOf Try.f12 10) = swashplatelaw01_SpansEach.T10 := by kernel_rfl
theorem swashplatelaw01_SpansEach.bits10 : waitsOk swashplatelaw01_SpansEach.T10.2 swashplatelaw01_SpansEach.B10 = true := by kernel_rfl
set_option maxHeartbeats 8000000 in
set_option maxRecDepth 100000 in
theorem swashplatelaw01_SpansEach.calls (k : Nat) (a0_0 : Int) (a0_1 : Int) (a1_0 : Int) (a1_1 : Int) (a2_0 : Int) (a2_1 : Int) (a2_2 : Int) (a2_3 : Int) (r : Bool) (w : World) (h : swashplatelaw01_SpansEach.f k a0_0 a0_1 a1_0 a1_1 a2_0 a2_1 a2_2 a2_3 = some r) :
    Calls Try.prog 12 #[.agg #[.int .i64 a0_0, .int .i64 a0_1], .agg #[.int .i64 a1_0, .int .i64 a1_1], .agg #[.int .i64 a2_0, .int .i64 a2_1, .int .i64 a2_2, .int .i64 a2_3]] w fun e w' => e = .returned (.bool r) ∧ Below w.heap.size w w' := by
  have hu27 := Try.underlying27
  have hu92 := Try.underlying92
  have HB := Aside0.mk (Below.refl w.heap.size w)
  have H : ((swashplateref01_Valid.f a0_0 a0_1).bind fun t1083 => (if t1083 = true then ((swashplateref01_Valid.f a1_0 a1_1).bind fun t1084 => (swashplatelaw01_SpansEach.j0 k (!t1084) a0_0 a0_1 a1_0 a1_1 a2_0 a2_1 a2_2 a2_3)) else (swashplatelaw01_SpansEach.j0 k true a0_0 a0_1 a1_0 a1_1 a2_0 a2_1 a2_2 a2_3))) = some r := h
  clear h
  have HC4 := Aside0.mk H
  clear H
  go_enter Try.func12, Try.ntmps12
  go_upto_region 1 with (first | ((with_reducible refine gate_dst (N := 3) rfl ?_); refine box_event ?hg (N := 3) ?hd (cs := #[.int .i64 a0_0, .int .i64 a0_1]) (t := 27) ?hr ?_; (case hd => rfl); (case hg => rfl); (case hr => first | (go_simp; done) | (go_simp; rfl)); intro gb1080 hg w5 hbox hb; have n0_ := Aside0.mk (below_step (by repeat (first | (with_reducible first | exact HB.out | apply below_alloc | apply pw_below_drewN | apply below_drew1) | exact HB.out)) hb); have n1_ := Aside0.mk (hbox); have n2_ := Aside0.mk ((by rw [hg]; exact (below_size (by repeat (first | (with_reducible first | exact HB.out | apply below_alloc | apply pw_below_drewN | apply below_drew1) | exact HB.out))) : w.heap.size ≤ gb1080)); have n3_ := Aside0.mk ((by rw [hg]; exact (below_size (by repeat (first | (with_reducible first | exact HB.out | apply below_alloc | apply pw_below_drewN | apply below_drew1) | exact HB.out))) : w.heap.size ≤ gb1080)); clear HB; have HB := n0_; have BK1080 := n1_; have GW1080 := n2_; have GE1080 := n3_; clear n0_ n1_ n2_ n3_; clear hb hbox hg) | ((with_reducible refine gate_dst (N := 4) rfl ?_); refine box_event ?hg (N := 4) ?hd (cs := #[.int .i64 a1_0, .int .i64 a1_1]) (t := 27) ?hr ?_; (case hd => rfl); (case hg => rfl); (case hr => first | (go_simp; done) | (go_simp; rfl)); intro gb1081 hg w6 hbox hb; have n0_ := Aside0.mk (blk_below (g := gb1080) (o := .cells #[.int .i64 a0_0, .int .i64 a0_1] 27 (0, 0)) (by (with_reducible repeat (first | refine blk_drewN ?_ _ | refine blk_drew ?_ | refine blk_alloc ?_ _)); exact BK1080.out) hb); have n1_ := Aside0.mk (below_step (by repeat (first | (with_reducible first | exact HB.out | apply below_alloc | apply pw_below_drewN | apply below_drew1 | refine below_set ?_ GE1080.out) | exact HB.out)) hb); have n2_ := Aside0.mk (hbox); have n3_ := Aside0.mk ((by rw [hg]; exact (below_size (by repeat (first | (with_reducible first | exact HB.out | apply below_alloc | apply pw_below_drewN | apply below_drew1 | refine below_set ?_ GE1080.out) | exact HB.out))) : w.heap.size ≤ gb1081)); have n4_ := Aside0.mk ((by rw [hg]; exact (below_size (by repeat (first | (with_reducible first | exact HB.out | apply below_alloc | apply pw_below_drewN | apply below_drew1 | refine below_set ?_ GE1080.out) | exact HB.out))) : w.heap.size ≤ gb1081)); have n5_ := Aside0.mk ((by rw [hg]; exact Nat.ne_of_lt (blk_lt (g := gb1080) (o := .cells #[.int .i64 a0_0, .int .i64 a0_1] 27 (0, 0)) (by (with_reducible repeat (first | refine blk_drewN ?_ _ | refine blk_drew ?_ | refine blk_alloc ?_ _)); exact BK1080.out)) : gb1080 ≠ gb1081)); have n6_ := Aside0.mk ((by rw [hg]; exact Nat.ne_of_gt (blk_lt (g := gb1080) (o := .cells #[.int .i64 a0_0, .int .i64 a0_1] 27 (0, 0)) (by (with_reducible repeat (first | refine blk_drewN ?_ _ | refine blk_drew ?_ | refine blk_alloc ?_ _)); exact BK1080.out)) : gb1081 ≠ gb1080)); clear BK1080; clear HB; have BK1080 := n0_; have HB := n1_; have BK1081 := n2_; have GW1081 := n3_; have GE1081 := n4_; have NB1080_1081 := n5_; have NB1081_1080 := n6_; clear n0_ n1_ n2_ n3_ n4_ n5_ n6_; clear hb hbox hg) | ((with_reducible refine gate_dst (N := 5) rfl ?_); refine box_event ?hg (N := 5) ?hd (cs := #[.int .i64 a2_0, .int .i64 a2_1, .int .i64 a2_2, .int .i64 a2_3]) (t := 92) ?hr ?_; (case hd => rfl); (case hg => rfl); (case hr => first | (go_simp; done) | (go_simp; rfl)); intro gb1082 hg w7 hbox hb; have n0_ := Aside0.mk (blk_below (g := gb1080) (o := .cells #[.int .i64 a0_0, .int .i64 a0_1] 27 (0, 0)) (by (with_reducible repeat (first | refine blk_drewN ?_ _ | refine blk_drew ?_ | refine blk_alloc ?_ _)); exact BK1080.out) hb); have n1_ := Aside0.mk (blk_below (g := gb1081) (o := .cells #[.int .i64 a1_0, .int .i64 a1_1] 27 (0, 0)) (by (with_reducible repeat (first | refine blk_drewN ?_ _ | refine blk_drew ?_ | refine blk_alloc ?_ _)); exact BK1081.out) hb); have n2_ := Aside0.mk (below_step (by repeat (first | (with_reducible first | exact HB.out | apply below_alloc | apply pw_below_drewN | apply below_drew1 | refine below_set ?_ GE1080.out | refine below_set ?_ GE1081.out) | exact HB.out)) hb); have n3_ := Aside0.mk (hbox); have n4_ := Aside0.mk ((by rw [hg]; exact (below_size (by repeat (first | (with_reducible first | exact HB.out | apply below_alloc | apply pw_below_drewN | apply below_drew1 | refine below_set ?_ GE1080.out | refine below_set ?_ GE1081.out) | exact HB.out))) : w.heap.size ≤ gb1082)); have n5_ := Aside0.mk ((by rw [hg]; exact (below_size (by repeat (first | (with_reducible first | exact HB.out | apply below_alloc | apply pw_below_drewN | apply below_drew1 | refine below_set ?_ GE1080.out | refine below_set ?_ GE1081.out) | exact HB.out))) : w.heap.size ≤ gb1082)); have n6_ := Aside0.mk ((by rw [hg]; exact Nat.ne_of_lt (blk_lt (g := gb1080) (o := .cells #[.int .i64 a0_0, .int .i64 a0_1] 27 (0, 0)) (by (with_reducible repeat (first | refine blk_drewN ?_ _ | refine blk_drew ?_ | refine blk_alloc ?_ _)); exact BK1080.out)) : gb1080 ≠ gb1082)); have n7_ := Aside0.mk ((by rw [hg]; exact Nat.ne_of_gt (blk_lt (g := gb1080) (o := .cells #[.int .i64 a0_0, .int .i64 a0_1] 27 (0, 0)) (by (with_reducible repeat (first | refine blk_drewN ?_ _ | refine blk_drew ?_ | refine blk_alloc ?_ _)); exact BK1080.out)) : gb1082 ≠ gb1080)); have n8_ := Aside0.mk ((by rw [hg]; exact Nat.ne_of_lt (blk_lt (g := gb1081) (o := .cells #[.int .i64 a1_0, .int .i64 a1_1] 27 (0, 0)) (by (with_reducible repeat (first | refine blk_drewN ?_ _ | refine blk_drew ?_ | refine blk_alloc ?_ _)); exact BK1081.out)) : gb1081 ≠ gb1082)); have n9_ := Aside0.mk ((by rw [hg]; exact Nat.ne_of_gt (blk_lt (g := gb1081) (o := .cells #[.int .i64 a1_0, .int .i64 a1_1] 27 (0, 0)) (by (with_reducible repeat (first | refine blk_drewN ?_ _ | refine blk_drew ?_ | refine blk_alloc ?_ _)); exact BK1081.out)) : gb1082 ≠ gb1081)); clear BK1080; clear BK1081; clear HB; have BK1080 := n0_; have BK1081 := n1_; have HB := n2_; have BK1082 := n3_; have GW1082 := n4_; have GE1082 := n5_; have NB1080_1082 := n6_; have NB1082_1080 := n7_; have NB1081_1082 := n8_; have NB1082_1081 := n9_; clear n0_ n1_ n2_ n3_ n4_ n5_ n6_ n7_ n8_ n9_; clear hb hbox hg))
  (try simp only [Act.put, List.setIfInBounds_toArray, List.set_cons_zero, List.set_cons_succ])
  go_cut [24] (fun v24 wc => ∃ (kq : Nat) (x24_3 : Bool), v24 = .bool x24_3 ∧ Aside0 (swashplatelaw01_SpansEach.j0 kq x24_3 a0_0 a0_1 a1_0 a1_1 a2_0 a2_1 a2_2 a2_3 = some r) ∧ Aside0 (kq ≤ k) ∧ Aside0 (wc.heap[gb1080]? = some (.cells #[.int .i64 a0_0, .int .i64 a0_1] 27 (0, 0))) ∧ Aside0 (wc.heap[gb1081]? = some (.cells #[.int .i64 a1_0, .int .i64 a1_1] 27 (0, 0))) ∧ Aside0 (wc.heap[gb1082]? = some (.cells #[.int .i64 a2_0, .int .i64 a2_1, .int .i64 a2_2, .int .i64 a2_3] 92 (0, 0))) ∧ Aside0 (Below w.heap.size w wc))
  case first =>
    have H := HC4.out
    clear HC4
    replace H := Option.bind_eq_some_iff.mp H
    obtain ⟨t1083, A80, H⟩ := H
    replace H : (if t1083 = true then ((swashplateref01_Valid.f a1_0 a1_1).bind fun t1084 => (swashplatelaw01_SpansEach.j0 k (!t1084) a0_0 a0_1 a1_0 a1_1 a2_0 a2_1 a2_2 a2_3)) else (swashplatelaw01_SpansEach.j0 k true a0_0 a0_1 a1_0 a1_1 a2_0 a2_1 a2_2 a2_3)) = some r := H
    have A8 := Aside0.mk A80
    clear A80
    by_cases c9 : t1083 = true
    · subst c9
      have H1 : ((swashplateref01_Valid.f a1_0 a1_1).bind fun t1084 => (swashplatelaw01_SpansEach.j0 k (!t1084) a0_0 a0_1 a1_0 a1_1 a2_0 a2_1 a2_2 a2_3)) = some r := by rw [if_pos rfl] at H; exact H
      clear H
      have H := H1
      clear H1
      replace H := Option.bind_eq_some_iff.mp H
      obtain ⟨t1084, A100, H⟩ := H
      replace H : (swashplatelaw01_SpansEach.j0 k (!t1084) a0_0 a0_1 a1_0 a1_1 a2_0 a2_1 a2_2 a2_3) = some r := H
      have A10 := Aside0.mk A100
      clear A100
      have H' := Aside0.mk H
      clear H
      have hnb11 := NB1080_1081.out
      have hnc11 := NB1081_1080.out
      have hnb12 := NB1080_1082.out
      have hnc12 := NB1082_1080.out
      have hcz13_0 : w7.cell? ⟨gb1080, 0, none⟩ = some (.int .i64 a0_0) := (blk_cell BK1080.out 0).trans rfl
      have hcz13_1 : w7.cell? ⟨gb1080, 1, none⟩ = some (.int .i64 a0_1) := (blk_cell BK1080.out 1).trans rfl
      have hfz13_0 := blk_frozen BK1080.out 0
      have hfz13_1 := blk_frozen BK1080.out 1
      go_wp2_with (first | ((with_reducible refine gate_callee (f := 40) rfl ?_); refine goesL_ (some 18) rfl rfl Try.func40 (by kernel_rfl) rfl #[.agg #[.int .i64 a0_0, .int .i64 a0_1]] rfl (by (try simp only [List.map_toArray, List.map_cons, List.map_nil]); first | done | rfl | (simp only [List.length_drop, List.length_take]; rfl)) ?_; (with_reducible refine (swashplateref01_Valid.calls a0_0 a0_1 true _ A8.out).mono ?_); rintro e w14 ⟨rfl, hb⟩; refine ⟨_, rfl, ?_⟩; have n0_ := Aside0.mk (blk_below (g := gb1080) (o := .cells #[.int .i64 a0_0, .int .i64 a0_1] 27 (0, 0)) (by (with_reducible repeat (first | refine blk_drewN ?_ _ | refine blk_drew ?_ | refine blk_alloc ?_ _)); exact BK1080.out) hb); have n1_ := Aside0.mk (blk_below (g := gb1081) (o := .cells #[.int .i64 a1_0, .int .i64 a1_1] 27 (0, 0)) (by (with_reducible repeat (first | refine blk_drewN ?_ _ | refine blk_drew ?_ | refine blk_alloc ?_ _)); exact BK1081.out) hb); have n2_ := Aside0.mk (blk_below (g := gb1082) (o := .cells #[.int .i64 a2_0, .int .i64 a2_1, .int .i64 a2_2, .int .i64 a2_3] 92 (0, 0)) (by (with_reducible repeat (first | refine blk_drewN ?_ _ | refine blk_drew ?_ | refine blk_alloc ?_ _)); exact BK1082.out) hb); have n3_ := Aside0.mk (below_step (by repeat (first | (with_reducible first | exact HB.out | apply below_alloc | apply pw_below_drewN | apply below_drew1 | refine below_set ?_ GE1080.out | refine below_set ?_ GE1081.out | refine below_set ?_ GE1082.out) | exact HB.out)) hb); clear BK1080; clear BK1081; clear BK1082; clear HB; have BK1080 := n0_; have BK1081 := n1_; have BK1082 := n2_; have HB := n3_; clear n0_ n1_ n2_ n3_; (try clear hb); (try clear hb2); (try clear hk); (try clear hi); have hnb15 := NB1081_1082.out; have hnc15 := NB1082_1081.out; have hcz16_0 : w14.cell? ⟨gb1081, 0, none⟩ = some (.int .i64 a1_0) := (blk_cell BK1081.out 0).trans rfl; have hcz16_1 : w14.cell? ⟨gb1081, 1, none⟩ = some (.int .i64 a1_1) := (blk_cell BK1081.out 1).trans rfl; have hfz16_0 := blk_frozen BK1081.out 0; have hfz16_1 := blk_frozen BK1081.out 1) | (go_at_call 40; (with_reducible refine (swashplateref01_Valid.calls a1_0 a1_1 t1084 _ A10.out).mono ?_); rintro e w17 ⟨rfl, hb⟩; have n0_ := Aside0.mk (blk_below (g := gb1080) (o := .cells #[.int .i64 a0_0, .int .i64 a0_1] 27 (0, 0)) (by (with_reducible repeat (first | refine blk_drewN ?_ _ | refine blk_drew ?_ | refine blk_alloc ?_ _)); exact BK1080.out) hb); have n1_ := Aside0.mk (blk_below (g := gb1081) (o := .cells #[.int .i64 a1_0, .int .i64 a1_1] 27 (0, 0)) (by (with_reducible repeat (first | refine blk_drewN ?_ _ | refine blk_drew ?_ | refine blk_alloc ?_ _)); exact BK1081.out) hb); have n2_ := Aside0.mk (blk_below (g := gb1082) (o := .cells #[.int .i64 a2_0, .int .i64 a2_1, .int .i64 a2_2, .int .i64 a2_3] 92 (0, 0)) (by (with_reducible repeat (first | refine blk_drewN ?_ _ | refine blk_drew ?_ | refine blk_alloc ?_ _)); exact BK1082.out) hb); have n3_ := Aside0.mk (below_step (by repeat (first | (with_reducible first | exact HB.out | apply below_alloc | apply pw_below_drewN | apply below_drew1 | refine below_set ?_ GE1080.out | refine below_set ?_ GE1081.out | refine below_set ?_ GE1082.out) | exact HB.out)) hb); clear BK1080; clear BK1081; clear BK1082; clear HB; have BK1080 := n0_; have BK1081 := n1_; have BK1082 := n2_; have HB := n3_; clear n0_ n1_ n2_ n3_; (try clear hb); (try clear hb2); (try clear hk); (try clear hi)))
      go_meet
      case rel => exact ⟨_, (!t1084), (by first | rfl | (simp; done) | (simp [*]; done)), H', ⟨by first | omega | exact Nat.le_refl _⟩, ⟨by (with_reducible repeat (first | refine blk_drewN ?_ _ | refine blk_drew ?_ | refine blk_alloc ?_ _)); exact BK1080.out⟩, ⟨by (with_reducible repeat (first | refine blk_drewN ?_ _ | refine blk_drew ?_ | refine blk_alloc ?_ _)); exact BK1081.out⟩, ⟨by (with_reducible repeat (first | refine blk_drewN ?_ _ | refine blk_drew ?_ | refine blk_alloc ?_ _)); exact BK1082.out⟩, ⟨by repeat (first | (with_reducible first | exact HB.out | apply below_alloc | apply pw_below_drewN | apply below_drew1 | refine below_set ?_ GE1080.out | refine below_set ?_ GE1081.out | refine below_set ?_ GE1082.out) | exact HB.out)⟩⟩
    · replace c9 := Bool.eq_false_iff.mpr c9
      subst c9
      have H1 : (swashplatelaw01_SpansEach.j0 k true a0_0 a0_1 a1_0 a1_1 a2_0 a2_1 a2_2 a2_3) = some r := by rw [if_neg (show ¬ (false = true) by decide)] at H; exact H
      clear H
      have H := H1
      clear H1
      have H' := Aside0.mk H
      clear H
      have hnb18 := NB1080_1081.out
      have hnc18 := NB1081_1080.out
      have hnb19 := NB1080_1082.out
      have hnc19 := NB1082_1080.out
      have hcz20_0 : w7.cell? ⟨gb1080, 0, none⟩ = some (.int .i64 a0_0) := (blk_cell BK1080.out 0).trans rfl
      have hcz20_1 : w7.cell? ⟨gb1080, 1, none⟩ = some (.int .i64 a0_1) := (blk_cell BK1080.out 1).trans rfl
      have hfz20_0 := blk_frozen BK1080.out 0
      have hfz20_1 := blk_frozen BK1080.out 1
      go_wp2_with (first | ((with_reducible refine gate_callee (f := 40) rfl ?_); refine goesL_ (some 18) rfl rfl Try.func40 (by kernel_rfl) rfl #[.agg #[.int .i64 a0_0, .int .i64 a0_1]] rfl (by (try simp only [List.map_toArray, List.map_cons, List.map_nil]); first | done | rfl | (simp only [List.length_drop, List.length_take]; rfl)) ?_; (with_reducible refine (swashplateref01_Valid.calls a0_0 a0_1 false _ A8.out).mono ?_); rintro e w21 ⟨rfl, hb⟩; refine ⟨_, rfl, ?_⟩; have n0_ := Aside0.mk (blk_below (g := gb1080) (o := .cells #[.int .i64 a0_0, .int .i64 a0_1] 27 (0, 0)) (by (with_reducible repeat (first | refine blk_drewN ?_ _ | refine blk_drew ?_ | refine blk_alloc ?_ _)); exact BK1080.out) hb); have n1_ := Aside0.mk (blk_below (g := gb1081) (o := .cells #[.int .i64 a1_0, .int .i64 a1_1] 27 (0, 0)) (by (with_reducible repeat (first | refine blk_drewN ?_ _ | refine blk_drew ?_ | refine blk_alloc ?_ _)); exact BK1081.out) hb); have n2_ := Aside0.mk (blk_below (g := gb1082) (o := .cells #[.int .i64 a2_0, .int .i64 a2_1, .int .i64 a2_2, .int .i64 a2_3] 92 (0, 0)) (by (with_reducible repeat (first | refine blk_drewN ?_ _ | refine blk_drew ?_ | refine blk_alloc ?_ _)); exact BK1082.out) hb); have n3_ := Aside0.mk (below_step (by repeat (first | (with_reducible first | exact HB.out | apply below_alloc | apply pw_below_drewN | apply below_drew1 | refine below_set ?_ GE1080.out | refine below_set ?_ GE1081.out | refine below_set ?_ GE1082.out) | exact HB.out)) hb); clear BK1080; clear BK1081; clear BK1082; clear HB; have BK1080 := n0_; have BK1081 := n1_; have BK1082 := n2_; have HB := n3_; clear n0_ n1_ n2_ n3_; (try clear hb); (try clear hb2); (try clear hk); (try clear hi)))
      go_meet
      case rel => exact ⟨_, (true), (by first | rfl | (simp; done) | (simp [*]; done)), H', ⟨by first | omega | exact Nat.le_refl _⟩, ⟨by (with_reducible repeat (first | refine blk_drewN ?_ _ | refine blk_drew ?_ | refine blk_alloc ?_ _)); exact BK1080.out⟩, ⟨by (with_reducible repeat (first | refine blk_drewN ?_ _ | refine blk_drew ?_ | refine blk_alloc ?_ _)); exact BK1081.out⟩, ⟨by (with_reducible repeat (first | refine blk_drewN ?_ _ | refine blk_drew ?_ | refine blk_alloc ?_ _)); exact BK1082.out⟩, ⟨by repeat (first | (with_reducible first | exact HB.out | apply below_alloc | apply pw_below_drewN | apply below_drew1 | refine below_set ?_ GE1080.out | refine below_set ?_ GE1081.out | refine below_set ?_ GE1082.out) | exact HB.out)⟩⟩
  case rest =>
    clear HC4
    try clear c1
    try clear p2
    try clear c4
    try clear c9
    try clear c11
    try clear c12
    try clear c15
    try clear c18
    try clear c19
    try clear hcz13_0
    try clear hcz13_1
    try clear hcz16_0
    try clear hcz16_1
    try clear hcz20_0
    try clear hcz20_1
    try clear hfz13_0
    try clear hfz13_1
    try clear hfz16_0
    try clear hfz16_1
    try clear hfz20_0
    try clear hfz20_1
    obtain ⟨kq, x24_3, rfl, HA, HJ3, BK1080, BK1081, BK1082, HB⟩ := hcut
    cases kq with
    | zero => exact absurd HA.out (by simp [swashplatelaw01_SpansEach.j0])
    | succ kj3 =>
      have H := HA.out
      clear HA
      simp only [swashplatelaw01_SpansEach.j0] at H
      by_cases c22 : x24_3 = true
      · subst c22
        have H1 : ((swashplatelaw01_works.f kj3).bind fun t1085 => (some t1085)) = some r := by rw [if_pos rfl] at H; exact H
        clear H
        have H := H1
        clear H1
        replace H := Option.bind_eq_some_iff.mp H
        obtain ⟨t1085, A230, H⟩ := H
        replace H : (some t1085) = some r := H
        have A23 := Aside0.mk A230
        clear A230
        obtain rfl := Option.some.inj H
        go_wp2_with (first | ((with_reducible refine gate_callee (f := 22) rfl ?_); refine goesL_ (some 25) rfl rfl Try.func22 (by kernel_rfl) rfl #[] rfl (by (try simp only [List.map_toArray, List.map_cons, List.map_nil]); first | done | rfl | (simp only [List.length_drop, List.length_take]; rfl)) ?_; (with_reducible refine (swashplatelaw01_works.calls kj3  t1085 _ A23.out).mono ?_); rintro e w24 ⟨rfl, hb⟩; refine ⟨_, rfl, ?_⟩; have n0_ := Aside0.mk (blk_below (g := gb1080) (o := .cells #[.int .i64 a0_0, .int .i64 a0_1] 27 (0, 0)) (by (with_reducible repeat (first | refine blk_drewN ?_ _ | refine blk_drew ?_ | refine blk_alloc ?_ _)); exact BK1080.out) hb); have n1_ := Aside0.mk (blk_below (g := gb1081) (o := .cells #[.int .i64 a1_0, .int .i64 a1_1] 27 (0, 0)) (by (with_reducible repeat (first | refine blk_drewN ?_ _ | refine blk_drew ?_ | refine blk_alloc ?_ _)); exact BK1081.out) hb); have n2_ := Aside0.mk (blk_below (g := gb1082) (o := .cells #[.int .i64 a2_0, .int .i64 a2_1, .int .i64 a2_2, .int .i64 a2_3] 92 (0, 0)) (by (with_reducible repeat (first | refine blk_drewN ?_ _ | refine blk_drew ?_ | refine blk_alloc ?_ _)); exact BK1082.out) hb); have n3_ := Aside0.mk (below_step (by repeat (first | (with_reducible first | exact HB.out | apply below_alloc | apply pw_below_drewN | apply below_drew1 | refine below_set ?_ GE1080.out | refine below_set ?_ GE1081.out | refine below_set ?_ GE1082.out) | exact HB.out)) hb); clear BK1080; clear BK1081; clear BK1082; clear HB; have BK1080 := n0_; have BK1081 := n1_; have BK1082 := n2_; have HB := n3_; clear n0_ n1_ n2_ n3_; (try clear hb); (try clear hb2); (try clear hk); (try clear hi)))
        go_ret
        exact ⟨by first | rfl | (simp [errW_none, errW_some] <;> rfl) | (simp [*, errW_none, errW_some] <;> rfl), by repeat (first | (with_reducible first | exact HB.out | apply below_alloc | apply pw_below_drewN | apply below_drew1 | refine below_set ?_ GE1080.out | refine below_set ?_ GE1081.out | refine below_set ?_ GE1082.out) | exact HB.out)⟩
      · replace c22 := Bool.eq_false_iff.mpr c22
        subst c22
        have H1 : ((swashplatelaw01_within.f a2_0 a0_0 a0_1).bind fun t1086 => ((swashplatelaw01_within.f a2_1 a1_0 a1_1).bind fun t1087 => ((spans_Add.f a0_0 a0_1 a1_0 a1_1).bind fun bt1088 => ((spans_Times.f a0_0 a0_1 a1_0 a1_1).bind fun bt1092 => (if bt1088.2.2 = 0 then (if (wrap64 (t1086 + t1087)) < bt1088.1 then (swashplatelaw01_SpansEach.j1 kj3 t1086 t1087 bt1092.2.2 true a0_0 a0_1 a1_0 a1_1 a2_0 a2_1 a2_2 a2_3 bt1092.1 bt1092.2.1) else (if (wrap64 (t1086 + t1087)) > bt1088.2.1 then (swashplatelaw01_SpansEach.j1 kj3 t1086 t1087 bt1092.2.2 true a0_0 a0_1 a1_0 a1_1 a2_0 a2_1 a2_2 a2_3 bt1092.1 bt1092.2.1) else (if bt1088.1 = (wrap64 (a0_0 + a1_0)) then (if bt1088.2.1 = (wrap64 (a0_1 + a1_1)) then (swashplatelaw01_SpansEach.j1 kj3 t1086 t1087 bt1092.2.2 false a0_0 a0_1 a1_0 a1_1 a2_0 a2_1 a2_2 a2_3 bt1092.1 bt1092.2.1) else (swashplatelaw01_SpansEach.j1 kj3 t1086 t1087 bt1092.2.2 true a0_0 a0_1 a1_0 a1_1 a2_0 a2_1 a2_2 a2_3 bt1092.1 bt1092.2.1)) else (swashplatelaw01_SpansEach.j1 kj3 t1086 t1087 bt1092.2.2 true a0_0 a0_1 a1_0 a1_1 a2_0 a2_1 a2_2 a2_3 bt1092.1 bt1092.2.1)))) else (swashplatelaw01_SpansEach.j1 kj3 t1086 t1087 bt1092.2.2 (bt1088.2.2 != 2) a0_0 a0_1 a1_0 a1_1 a2_0 a2_1 a2_2 a2_3 bt1092.1 bt1092.2.1)))))) = some r := by rw [if_neg (show ¬ (false = true) by decide)] at H; exact H
        clear H
        have H := H1
        clear H1
        replace H := Option.bind_eq_some_iff.mp H
        obtain ⟨t1086, A250, H⟩ := H
        replace H : ((swashplatelaw01_within.f a2_1 a1_0 a1_1).bind fun t1087 => ((spans_Add.f a0_0 a0_1 a1_0 a1_1).bind fun bt1088 => ((spans_Times.f a0_0 a0_1 a1_0 a1_1).bind fun bt1092 => (if bt1088.2.2 = 0 then (if (wrap64 (t1086 + t1087)) < bt1088.1 then (swashplatelaw01_SpansEach.j1 kj3 t1086 t1087 bt1092.2.2 true a0_0 a0_1 a1_0 a1_1 a2_0 a2_1 a2_2 a2_3 bt1092.1 bt1092.2.1) else (if (wrap64 (t1086 + t1087)) > bt1088.2.1 then (swashplatelaw01_SpansEach.j1 kj3 t1086 t1087 bt1092.2.2 true a0_0 a0_1 a1_0 a1_1 a2_0 a2_1 a2_2 a2_3 bt1092.1 bt1092.2.1) else (if bt1088.1 = (wrap64 (a0_0 + a1_0)) then (if bt1088.2.1 = (wrap64 (a0_1 + a1_1)) then (swashplatelaw01_SpansEach.j1 kj3 t1086 t1087 bt1092.2.2 false a0_0 a0_1 a1_0 a1_1 a2_0 a2_1 a2_2 a2_3 bt1092.1 bt1092.2.1) else (swashplatelaw01_SpansEach.j1 kj3 t1086 t1087 bt1092.2.2 true a0_0 a0_1 a1_0 a1_1 a2_0 a2_1 a2_2 a2_3 bt1092.1 bt1092.2.1)) else (swashplatelaw01_SpansEach.j1 kj3 t1086 t1087 bt1092.2.2 true a0_0 a0_1 a1_0 a1_1 a2_0 a2_1 a2_2 a2_3 bt1092.1 bt1092.2.1)))) else (swashplatelaw01_SpansEach.j1 kj3 t1086 t1087 bt1092.2.2 (bt1088.2.2 != 2) a0_0 a0_1 a1_0 a1_1 a2_0 a2_1 a2_2 a2_3 bt1092.1 bt1092.2.1))))) = some r := H
        have A25 := Aside0.mk A250
        clear A250
        replace H := Option.bind_eq_some_iff.mp H
        obtain ⟨t1087, A260, H⟩ := H
        replace H : ((spans_Add.f a0_0 a0_1 a1_0 a1_1).bind fun bt1088 => ((spans_Times.f a0_0 a0_1 a1_0 a1_1).bind fun bt1092 => (if bt1088.2.2 = 0 then (if (wrap64 (t1086 + t1087)) < bt1088.1 then (swashplatelaw01_SpansEach.j1 kj3 t1086 t1087 bt1092.2.2 true a0_0 a0_1 a1_0 a1_1 a2_0 a2_1 a2_2 a2_3 bt1092.1 bt1092.2.1) else (if (wrap64 (t1086 + t1087)) > bt1088.2.1 then (swashplatelaw01_SpansEach.j1 kj3 t1086 t1087 bt1092.2.2 true a0_0 a0_1 a1_0 a1_1 a2_0 a2_1 a2_2 a2_3 bt1092.1 bt1092.2.1) else (if bt1088.1 = (wrap64 (a0_0 + a1_0)) then (if bt1088.2.1 = (wrap64 (a0_1 + a1_1)) then (swashplatelaw01_SpansEach.j1 kj3 t1086 t1087 bt1092.2.2 false a0_0 a0_1 a1_0 a1_1 a2_0 a2_1 a2_2 a2_3 bt1092.1 bt1092.2.1) else (swashplatelaw01_SpansEach.j1 kj3 t1086 t1087 bt1092.2.2 true a0_0 a0_1 a1_0 a1_1 a2_0 a2_1 a2_2 a2_3 bt1092.1 bt1092.2.1)) else (swashplatelaw01_SpansEach.j1 kj3 t1086 t1087 bt1092.2.2 true a0_0 a0_1 a1_0 a1_1 a2_0 a2_1 a2_2 a2_3 bt1092.1 bt1092.2.1)))) else (swashplatelaw01_SpansEach.j1 kj3 t1086 t1087 bt1092.2.2 (bt1088.2.2 != 2) a0_0 a0_1 a1_0 a1_1 a2_0 a2_1 a2_2 a2_3 bt1092.1 bt1092.2.1)))) = some r := H
        have A26 := Aside0.mk A260
        clear A260
        replace H := Option.bind_eq_some_iff.mp H
        obtain ⟨⟨t1088, t1089, t1090⟩, A270, H⟩ := H
        replace H : ((spans_Times.f a0_0 a0_1 a1_0 a1_1).bind fun bt1092 => (if t1090 = 0 then (if (wrap64 (t1086 + t1087)) < t1088 then (swashplatelaw01_SpansEach.j1 kj3 t1086 t1087 bt1092.2.2 true a0_0 a0_1 a1_0 a1_1 a2_0 a2_1 a2_2 a2_3 bt1092.1 bt1092.2.1) else (if (wrap64 (t1086 + t1087)) > t1089 then (swashplatelaw01_SpansEach.j1 kj3 t1086 t1087 bt1092.2.2 true a0_0 a0_1 a1_0 a1_1 a2_0 a2_1 a2_2 a2_3 bt1092.1 bt1092.2.1) else (if t1088 = (wrap64 (a0_0 + a1_0)) then (if t1089 = (wrap64 (a0_1 + a1_1)) then (swashplatelaw01_SpansEach.j1 kj3 t1086 t1087 bt1092.2.2 false a0_0 a0_1 a1_0 a1_1 a2_0 a2_1 a2_2 a2_3 bt1092.1 bt1092.2.1) else (swashplatelaw01_SpansEach.j1 kj3 t1086 t1087 bt1092.2.2 true a0_0 a0_1 a1_0 a1_1 a2_0 a2_1 a2_2 a2_3 bt1092.1 bt1092.2.1)) else (swashplatelaw01_SpansEach.j1 kj3 t1086 t1087 bt1092.2.2 true a0_0 a0_1 a1_0 a1_1 a2_0 a2_1 a2_2 a2_3 bt1092.1 bt1092.2.1)))) else (swashplatelaw01_SpansEach.j1 kj3 t1086 t1087 bt1092.2.2 (t1090 != 2) a0_0 a0_1 a1_0 a1_1 a2_0 a2_1 a2_2 a2_3 bt1092.1 bt1092.2.1))) = some r := H
        have A27 := Aside0.mk A270
        clear A270
        replace H := Option.bind_eq_some_iff.mp H
        obtain ⟨⟨t1092, t1093, t1094⟩, A280, H⟩ := H
        replace H : (if t1090 = 0 then (if (wrap64 (t1086 + t1087)) < t1088 then (swashplatelaw01_SpansEach.j1 kj3 t1086 t1087 t1094 true a0_0 a0_1 a1_0 a1_1 a2_0 a2_1 a2_2 a2_3 t1092 t1093) else (if (wrap64 (t1086 + t1087)) > t1089 then (swashplatelaw01_SpansEach.j1 kj3 t1086 t1087 t1094 true a0_0 a0_1 a1_0 a1_1 a2_0 a2_1 a2_2 a2_3 t1092 t1093) else (if t1088 = (wrap64 (a0_0 + a1_0)) then (if t1089 = (wrap64 (a0_1 + a1_1)) then (swashplatelaw01_SpansEach.j1 kj3 t1086 t1087 t1094 false a0_0 a0_1 a1_0 a1_1 a2_0 a2_1 a2_2 a2_3 t1092 t1093) else (swashplatelaw01_SpansEach.j1 kj3 t1086 t1087 t1094 true a0_0 a0_1 a1_0 a1_1 a2_0 a2_1 a2_2 a2_3 t1092 t1093)) else (swashplatelaw01_SpansEach.j1 kj3 t1086 t1087 t1094 true a0_0 a0_1 a1_0 a1_1 a2_0 a2_1 a2_2 a2_3 t1092 t1093)))) else (swashplatelaw01_SpansEach.j1 kj3 t1086 t1087 t1094 (t1090 != 2) a0_0 a0_1 a1_0 a1_1 a2_0 a2_1 a2_2 a2_3 t1092 t1093)) = some r := H
        have A28 := Aside0.mk A280
        clear A280
        have HC29 := Aside0.mk H
        clear H
        try go_wp2
        have n0_ := Aside0.mk (blk_drew BK1080.out)
        have n1_ := Aside0.mk (blk_drew BK1081.out)
        have n2_ := Aside0.mk (blk_drew BK1082.out)
        have n3_ := Aside0.mk (below_drew1 HB.out)
        clear BK1080
        clear BK1081
        clear BK1082
        clear HB
        have BK1080 := n0_
        have BK1081 := n1_
        have BK1082 := n2_
        have HB := n3_
        clear n0_ n1_ n2_ n3_
        refine start_ (n := 10) (S := fun w' => w'.cell? ⟨gb1082, 0, none⟩ = some (.int .i64 a2_0) ∧ w'.cell? ⟨gb1082, 1, none⟩ = some (.int .i64 a2_1) ∧ w'.cell? ⟨gb1082, 2, none⟩ = some (.int .i64 a2_2) ∧ w'.cell? ⟨gb1082, 3, none⟩ = some (.int .i64 a2_3) ∧ w'.cell? ⟨gb1080, 0, none⟩ = some (.int .i64 a0_0) ∧ w'.cell? ⟨gb1080, 1, none⟩ = some (.int .i64 a0_1) ∧ w'.cell? ⟨gb1081, 0, none⟩ = some (.int .i64 a1_0) ∧ w'.cell? ⟨gb1081, 1, none⟩ = some (.int .i64 a1_1)) (ds := []) #[false, false, false, false, false, false, false, false, false, false] (by kernel_rfl) rfl rfl ⟨(blk_cell BK1082.out 0).trans rfl, (blk_cell BK1082.out 1).trans rfl, (blk_cell BK1082.out 2).trans rfl, (blk_cell BK1082.out 3).trans rfl, (blk_cell BK1080.out 0).trans rfl, (blk_cell BK1080.out 1).trans rfl, (blk_cell BK1081.out 0).trans rfl, (blk_cell BK1081.out 1).trans rfl⟩ (fun hHeld => ?_); refine with_tabW swashplatelaw01_SpansEach.tab3 swashplatelaw01_SpansEach.bits3 (fun HT_ HW_ => ?_)
        generalize wc.drew = w30 at BK1080 BK1081 BK1082 HB hHeld ⊢
        refine pure_ (i := 0) (N := some 26) (v := ?_) (a' := ?_) #[true, false, false, false, false, false, false, false, false, false] rfl rfl (any_of HT_.out (by kernel_rfl)) (fun _ _ _ h => h) (Or.inl ⟨by rfl, ?_⟩) ?_ ?_
        rotate_left
        · intro w'
          go_simp
          with_reducible rfl
        rotate_left
        · simp only [Act.put, List.setIfInBounds_toArray, List.set_cons_zero, List.set_cons_succ, i64_w, i32_w]
          rfl
        refine pure_ (i := 4) (N := some 30) (v := ?_) (a' := ?_) #[true, false, false, false, true, false, false, false, false, false] rfl rfl (any_of HT_.out (by kernel_rfl)) (fun _ _ _ h => h) (Or.inl ⟨by rfl, ?_⟩) ?_ ?_
        rotate_left
        · intro w'
          go_simp
          with_reducible rfl
        rotate_left
        · simp only [Act.put, List.setIfInBounds_toArray, List.set_cons_zero, List.set_cons_succ, i64_w, i32_w]
          rfl
        refine take_ (i := 1) (N := some 27) (v := ?_) (a' := ?_) #[true, true, false, false, true, false, false, false, false, false] rfl rfl (take_ofW HT_.out HW_.out (by kernel_rfl)) (fun _ _ _ h => h) (Or.inl ⟨by rfl, ?_⟩) hHeld ?_ ?_
        rotate_left
        · rintro w' ⟨s0, s1, s2, s3, s4, s5, s6, s7⟩
          go_simp
          with_reducible rfl
        rotate_left
        · simp only [Act.put, List.setIfInBounds_toArray, List.set_cons_zero, List.set_cons_succ, i64_w, i32_w]
          rfl
        refine take_ (i := 2) (N := some 28) (v := ?_) (a' := ?_) #[true, true, true, false, true, false, false, false, false, false] rfl rfl (take_ofW HT_.out HW_.out (by kernel_rfl)) (fun _ _ _ h => h) (Or.inl ⟨by rfl, ?_⟩) hHeld ?_ ?_
        rotate_left
        · rintro w' ⟨s0, s1, s2, s3, s4, s5, s6, s7⟩
          go_simp
          with_reducible rfl
        rotate_left
        · simp only [Act.put, List.setIfInBounds_toArray, List.set_cons_zero, List.set_cons_succ, i64_w, i32_w]
          rfl
        refine take_ (i := 5) (N := some 31) (v := ?_) (a' := ?_) #[true, true, true, false, true, true, false, false, false, false] rfl rfl (take_ofW HT_.out HW_.out (by kernel_rfl)) (fun _ _ _ h => h) (Or.inl ⟨by rfl, ?_⟩) hHeld ?_ ?_
        rotate_left
        · rintro w' ⟨s0, s1, s2, s3, s4, s5, s6, s7⟩
          go_simp
          with_reducible rfl
        rotate_left
        · simp only [Act.put, List.setIfInBounds_toArray, List.set_cons_zero, List.set_cons_succ, i64_w, i32_w]
          rfl
        refine take_ (i := 6) (N := some 32) (v := ?_) (a' := ?_) #[true, true, true, false, true, true, true, false, false, false] rfl rfl (take_ofW HT_.out HW_.out (by kernel_rfl)) (fun _ _ _ h => h) (Or.inl ⟨by rfl, ?_⟩) hHeld ?_ ?_
        rotate_left
        · rintro w' ⟨s0, s1, s2, s3, s4, s5, s6, s7⟩
          go_simp
          with_reducible rfl
        rotate_left
        · simp only [Act.put, List.setIfInBounds_toArray, List.set_cons_zero, List.set_cons_succ, i64_w, i32_w]
          rfl
        refine one_ (i := 3) (N := some 29) #[true, true, true, true, true, true, true, false, false, false] rfl rfl (one_of HT_.out (by kernel_rfl)) (by decide) (fun K hK => ?_)
        refine goes_ Try.func53 (by kernel_rfl) rfl #[.int .i64 a2_0, .agg #[.int .i64 a0_0, .int .i64 a0_1]] (by rfl) rfl rfl (by (try simp only [List.map_toArray, List.map_cons, List.map_nil]); first | done | rfl | (simp only [List.length_drop, List.length_take]; rfl)) ?_
        with_reducible refine (swashplatelaw01_within.calls a2_0 a0_0 a0_1 t1086 _ A25.out).mono ?_
        rintro e w31 ⟨rfl, hb⟩
        refine ⟨_, rfl, ?_⟩
        have n0_ := Aside0.mk (blk_below (g := gb1080) (o := .cells #[.int .i64 a0_0, .int .i64 a0_1] 27 (0, 0)) (by (with_reducible repeat (first | refine blk_drewN ?_ _ | refine blk_drew ?_ | refine blk_alloc ?_ _)); exact BK1080.out) hb)
        have n1_ := Aside0.mk (blk_below (g := gb1081) (o := .cells #[.int .i64 a1_0, .int .i64 a1_1] 27 (0, 0)) (by (with_reducible repeat (first | refine blk_drewN ?_ _ | refine blk_drew ?_ | refine blk_alloc ?_ _)); exact BK1081.out) hb)
        have n2_ := Aside0.mk (blk_below (g := gb1082) (o := .cells #[.int .i64 a2_0, .int .i64 a2_1, .int .i64 a2_2, .int .i64 a2_3] 92 (0, 0)) (by (with_reducible repeat (first | refine blk_drewN ?_ _ | refine blk_drew ?_ | refine blk_alloc ?_ _)); exact BK1082.out) hb)
        have n3_ := Aside0.mk (below_step (by repeat (first | (with_reducible first | exact HB.out | apply below_alloc | apply pw_below_drewN | apply below_drew1 | refine below_set ?_ GE1080.out | refine below_set ?_ GE1081.out | refine below_set ?_ GE1082.out) | exact HB.out)) hb)
        clear BK1080
        clear BK1081
        clear BK1082
        clear HB
        have BK1080 := n0_
        have BK1081 := n1_
        have BK1082 := n2_
        have HB := n3_
        clear n0_ n1_ n2_ n3_
        (try clear hb)
        (try clear hb2)
        (try clear hk)
        (try clear hi)
        refine hK.out _ _ ⟨(blk_cell BK1082.out 0).trans rfl, (blk_cell BK1082.out 1).trans rfl, (blk_cell BK1082.out 2).trans rfl, (blk_cell BK1082.out 3).trans rfl, (blk_cell BK1080.out 0).trans rfl, (blk_cell BK1080.out 1).trans rfl, (blk_cell BK1081.out 0).trans rfl, (blk_cell BK1081.out 1).trans rfl⟩ (fun hHeld => ?_)
        clear hK K
        refine norm_ (a' := ?_) ?_ ?_
        rotate_left
        · show Act.put _ (some 29) _ = _
          simp only [Act.put, List.setIfInBounds_toArray, List.set_cons_zero, List.set_cons_succ, i64_w, i32_w]
          rfl
        refine one_ (i := 7) (N := some 33) #[true, true, true, true, true, true, true, true, false, false] rfl rfl (one_of HT_.out (by kernel_rfl)) (by decide) (fun K hK => ?_)
        refine goes_ Try.func53 (by kernel_rfl) rfl #[.int .i64 a2_1, .agg #[.int .i64 a1_0, .int .i64 a1_1]] (by rfl) rfl rfl (by (try simp only [List.map_toArray, List.map_cons, List.map_nil]); first | done | rfl | (simp only [List.length_drop, List.length_take]; rfl)) ?_
        with_reducible refine (swashplatelaw01_within.calls a2_1 a1_0 a1_1 t1087 _ A26.out).mono ?_
        rintro e w32 ⟨rfl, hb⟩
        refine ⟨_, rfl, ?_⟩
        have n0_ := Aside0.mk (blk_below (g := gb1080) (o := .cells #[.int .i64 a0_0, .int .i64 a0_1] 27 (0, 0)) (by (with_reducible repeat (first | refine blk_drewN ?_ _ | refine blk_drew ?_ | refine blk_alloc ?_ _)); exact BK1080.out) hb)
        have n1_ := Aside0.mk (blk_below (g := gb1081) (o := .cells #[.int .i64 a1_0, .int .i64 a1_1] 27 (0, 0)) (by (with_reducible repeat (first | refine blk_drewN ?_ _ | refine blk_drew ?_ | refine blk_alloc ?_ _)); exact BK1081.out) hb)
        have n2_ := Aside0.mk (blk_below (g := gb1082) (o := .cells #[.int .i64 a2_0, .int .i64 a2_1, .int .i64 a2_2, .int .i64 a2_3] 92 (0, 0)) (by (with_reducible repeat (first | refine blk_drewN ?_ _ | refine blk_drew ?_ | refine blk_alloc ?_ _)); exact BK1082.out) hb)
        have n3_ := Aside0.mk (below_step (by repeat (first | (with_reducible first | exact HB.out | apply below_alloc | apply pw_below_drewN | apply below_drew1 | refine below_set ?_ GE1080.out | refine below_set ?_ GE1081.out | refine below_set ?_ GE1082.out) | exact HB.out)) hb)
        clear BK1080
        clear BK1081
        clear BK1082
        clear HB
        have BK1080 := n0_
        have BK1081 := n1_
        have BK1082 := n2_
        have HB := n3_
        clear n0_ n1_ n2_ n3_
        (try clear hb)
        (try clear hb2)
        (try clear hk)
        (try clear hi)
        refine hK.out _ _ ⟨(blk_cell BK1082.out 0).trans rfl, (blk_cell BK1082.out 1).trans rfl, (blk_cell BK1082.out 2).trans rfl, (blk_cell BK1082.out 3).trans rfl, (blk_cell BK1080.out 0).trans rfl, (blk_cell BK1080.out 1).trans rfl, (blk_cell BK1081.out 0).trans rfl, (blk_cell BK1081.out 1).trans rfl⟩ (fun hHeld => ?_)
        clear hK K
        refine norm_ (a' := ?_) ?_ ?_
        rotate_left
        · show Act.put _ (some 33) _ = _
          simp only [Act.put, List.setIfInBounds_toArray, List.set_cons_zero, List.set_cons_succ, i64_w, i32_w]
          rfl
        refine pure_ (i := 8) (N := some 7) (v := ?_) (a' := ?_) #[true, true, true, true, true, true, true, true, true, false] rfl rfl (any_of HT_.out (by kernel_rfl)) (fun _ _ _ h => h) (Or.inl ⟨by rfl, ?_⟩) ?_ ?_
        rotate_left
        · intro w'
          go_simp
          with_reducible rfl
        rotate_left
        · simp only [Act.put, List.setIfInBounds_toArray, List.set_cons_zero, List.set_cons_succ, i64_w, i32_w]
          rfl
        refine pure_ (i := 9) (N := some 8) (v := ?_) (a' := ?_) #[true, true, true, true, true, true, true, true, true, true] rfl rfl (any_of HT_.out (by kernel_rfl)) (fun _ _ _ h => h) (Or.inl ⟨by rfl, ?_⟩) ?_ ?_
        rotate_left
        · intro w'
          go_simp
          with_reducible rfl
        rotate_left
        · simp only [Act.put, List.setIfInBounds_toArray, List.set_cons_zero, List.set_cons_succ, i64_w, i32_w]
          rfl
        refine done_ (done_of HT_.out (by kernel_rfl)) ?_
        have hnb33 := NB1080_1081.out
        have hnc33 := NB1081_1080.out
        have hnb34 := NB1080_1082.out
        have hnc34 := NB1082_1080.out
        have hcz35_0 : w32.cell? ⟨gb1080, 0, none⟩ = some (.int .i64 a0_0) := (blk_cell BK1080.out 0).trans rfl
        have hcz35_1 : w32.cell? ⟨gb1080, 1, none⟩ = some (.int .i64 a0_1) := (blk_cell BK1080.out 1).trans rfl
        have hfz35_0 := blk_frozen BK1080.out 0
        have hfz35_1 := blk_frozen BK1080.out 1
        have hnb36 := NB1081_1082.out
        have hnc36 := NB1082_1081.out
        have hcz37_0 : w32.cell? ⟨gb1081, 0, none⟩ = some (.int .i64 a1_0) := (blk_cell BK1081.out 0).trans rfl
        have hcz37_1 : w32.cell? ⟨gb1081, 1, none⟩ = some (.int .i64 a1_1) := (blk_cell BK1081.out 1).trans rfl
        have hfz37_0 := blk_frozen BK1081.out 0
        have hfz37_1 := blk_frozen BK1081.out 1
        go_upto_region 6 with (first | ((with_reducible refine gate_callee (f := 42) rfl ?_); refine goesL_ (some 37) rfl rfl Try.func42 (by kernel_rfl) rfl #[.agg #[.int .i64 a0_0, .int .i64 a0_1], .agg #[.int .i64 a1_0, .int .i64 a1_1]] rfl (by (try simp only [List.map_toArray, List.map_cons, List.map_nil]); first | done | rfl | (simp only [List.length_drop, List.length_take]; rfl)) ?_; (with_reducible refine (spans_Add.calls a0_0 a0_1 a1_0 a1_1 t1088 t1089 t1090 _ A27.out).mono ?_); rintro e w38 ⟨rfl, hb⟩; refine ⟨_, rfl, ?_⟩; have n0_ := Aside0.mk (blk_below (g := gb1080) (o := .cells #[.int .i64 a0_0, .int .i64 a0_1] 27 (0, 0)) (by (with_reducible repeat (first | refine blk_drewN ?_ _ | refine blk_drew ?_ | refine blk_alloc ?_ _)); exact BK1080.out) hb); have n1_ := Aside0.mk (blk_below (g := gb1081) (o := .cells #[.int .i64 a1_0, .int .i64 a1_1] 27 (0, 0)) (by (with_reducible repeat (first | refine blk_drewN ?_ _ | refine blk_drew ?_ | refine blk_alloc ?_ _)); exact BK1081.out) hb); have n2_ := Aside0.mk (blk_below (g := gb1082) (o := .cells #[.int .i64 a2_0, .int .i64 a2_1, .int .i64 a2_2, .int .i64 a2_3] 92 (0, 0)) (by (with_reducible repeat (first | refine blk_drewN ?_ _ | refine blk_drew ?_ | refine blk_alloc ?_ _)); exact BK1082.out) hb); have n3_ := Aside0.mk (below_step (by repeat (first | (with_reducible first | exact HB.out | apply below_alloc | apply pw_below_drewN | apply below_drew1 | refine below_set ?_ GE1080.out | refine below_set ?_ GE1081.out | refine below_set ?_ GE1082.out) | exact HB.out)) hb); clear BK1080; clear BK1081; clear BK1082; clear HB; have BK1080 := n0_; have BK1081 := n1_; have BK1082 := n2_; have HB := n3_; clear n0_ n1_ n2_ n3_; (try clear hb); (try clear hb2); (try clear hk); (try clear hi)) | ((with_reducible refine gate_dst (N := 9) rfl ?_); refine box_event ?hg (N := 9) ?hd (cs := #[.int .i64 0, .int .i64 0]) (t := 27) ?hr ?_; (case hd => rfl); (case hg => rfl); (case hr => first | (go_simp; done) | (go_simp; rfl)); intro gb1091 hg w39 hbox hb; have n0_ := Aside0.mk (blk_below (g := gb1080) (o := .cells #[.int .i64 a0_0, .int .i64 a0_1] 27 (0, 0)) (by (with_reducible repeat (first | refine blk_drewN ?_ _ | refine blk_drew ?_ | refine blk_alloc ?_ _)); exact BK1080.out) hb); have n1_ := Aside0.mk (blk_below (g := gb1081) (o := .cells #[.int .i64 a1_0, .int .i64 a1_1] 27 (0, 0)) (by (with_reducible repeat (first | refine blk_drewN ?_ _ | refine blk_drew ?_ | refine blk_alloc ?_ _)); exact BK1081.out) hb); have n2_ := Aside0.mk (blk_below (g := gb1082) (o := .cells #[.int .i64 a2_0, .int .i64 a2_1, .int .i64 a2_2, .int .i64 a2_3] 92 (0, 0)) (by (with_reducible repeat (first | refine blk_drewN ?_ _ | refine blk_drew ?_ | refine blk_alloc ?_ _)); exact BK1082.out) hb); have n3_ := Aside0.mk (below_step (by repeat (first | (with_reducible first | exact HB.out | apply below_alloc | apply pw_below_drewN | apply below_drew1 | refine below_set ?_ GE1080.out | refine below_set ?_ GE1081.out | refine below_set ?_ GE1082.out) | exact HB.out)) hb); have n4_ := Aside0.mk (hbox); have n5_ := Aside0.mk ((by rw [hg]; exact (below_size (by repeat (first | (with_reducible first | exact HB.out | apply below_alloc | apply pw_below_drewN | apply below_drew1 | refine below_set ?_ GE1080.out | refine below_set ?_ GE1081.out | refine below_set ?_ GE1082.out) | exact HB.out))) : w.heap.size ≤ gb1091)); have n6_ := Aside0.mk ((by rw [hg]; exact (below_size (by repeat (first | (with_reducible first | exact HB.out | apply below_alloc | apply pw_below_drewN | apply below_drew1 | refine below_set ?_ GE1080.out | refine below_set ?_ GE1081.out | refine below_set ?_ GE1082.out) | exact HB.out))) : w.heap.size ≤ gb1091)); have n7_ := Aside0.mk ((by rw [hg]; exact Nat.ne_of_lt (blk_lt (g := gb1080) (o := .cells #[.int .i64 a0_0, .int .i64 a0_1] 27 (0, 0)) (by (with_reducible repeat (first | refine blk_drewN ?_ _ | refine blk_drew ?_ | refine blk_alloc ?_ _)); exact BK1080.out)) : gb1080 ≠ gb1091)); have n8_ := Aside0.mk ((by rw [hg]; exact Nat.ne_of_gt (blk_lt (g := gb1080) (o := .cells #[.int .i64 a0_0, .int .i64 a0_1] 27 (0, 0)) (by (with_reducible repeat (first | refine blk_drewN ?_ _ | refine blk_drew ?_ | refine blk_alloc ?_ _)); exact BK1080.out)) : gb1091 ≠ gb1080)); have n9_ := Aside0.mk ((by rw [hg]; exact Nat.ne_of_lt (blk_lt (g := gb1081) (o := .cells #[.int .i64 a1_0, .int .i64 a1_1] 27 (0, 0)) (by (with_reducible repeat (first | refine blk_drewN ?_ _ | refine blk_drew ?_ | refine blk_alloc ?_ _)); exact BK1081.out)) : gb1081 ≠ gb1091)); have n10_ := Aside0.mk ((by rw [hg]; exact Nat.ne_of_gt (blk_lt (g := gb1081) (o := .cells #[.int .i64 a1_0, .int .i64 a1_1] 27 (0, 0)) (by (with_reducible repeat (first | refine blk_drewN ?_ _ | refine blk_drew ?_ | refine blk_alloc ?_ _)); exact BK1081.out)) : gb1091 ≠ gb1081)); have n11_ := Aside0.mk ((by rw [hg]; exact Nat.ne_of_lt (blk_lt (g := gb1082) (o := .cells #[.int .i64 a2_0, .int .i64 a2_1, .int .i64 a2_2, .int .i64 a2_3] 92 (0, 0)) (by (with_reducible repeat (first | refine blk_drewN ?_ _ | refine blk_drew ?_ | refine blk_alloc ?_ _)); exact BK1082.out)) : gb1082 ≠ gb1091)); have n12_ := Aside0.mk ((by rw [hg]; exact Nat.ne_of_gt (blk_lt (g := gb1082) (o := .cells #[.int .i64 a2_0, .int .i64 a2_1, .int .i64 a2_2, .int .i64 a2_3] 92 (0, 0)) (by (with_reducible repeat (first | refine blk_drewN ?_ _ | refine blk_drew ?_ | refine blk_alloc ?_ _)); exact BK1082.out)) : gb1091 ≠ gb1082)); clear BK1080; clear BK1081; clear BK1082; clear HB; have BK1080 := n0_; have BK1081 := n1_; have BK1082 := n2_; have HB := n3_; have BK1091 := n4_; have GW1091 := n5_; have GE1091 := n6_; have NB1080_1091 := n7_; have NB1091_1080 := n8_; have NB1081_1091 := n9_; have NB1091_1081 := n10_; have NB1082_1091 := n11_; have NB1091_1082 := n12_; clear n0_ n1_ n2_ n3_ n4_ n5_ n6_ n7_ n8_ n9_ n10_ n11_ n12_; clear hb hbox hg; have hnb40 := NB1091_1080.out; have hnc40 := NB1080_1091.out; have hnb41 := NB1091_1081.out; have hnc41 := NB1081_1091.out; have hnb42 := NB1091_1082.out; have hnc42 := NB1082_1091.out; have hcz43_0 : w39.cell? ⟨gb1091, 0, none⟩ = some (.int .i64 0) := (blk_cell BK1091.out 0).trans rfl; have hcz43_1 : w39.cell? ⟨gb1091, 1, none⟩ = some (.int .i64 0) := (blk_cell BK1091.out 1).trans rfl; have hfz43_0 := blk_frozen BK1091.out 0; have hfz43_1 := blk_frozen BK1091.out 1; have hcz44_0 : w39.cell? ⟨gb1080, 0, none⟩ = some (.int .i64 a0_0) := (blk_cell BK1080.out 0).trans rfl; have hcz44_1 : w39.cell? ⟨gb1080, 1, none⟩ = some (.int .i64 a0_1) := (blk_cell BK1080.out 1).trans rfl; have hfz44_0 := blk_frozen BK1080.out 0; have hfz44_1 := blk_frozen BK1080.out 1; have hcz45_0 : w39.cell? ⟨gb1081, 0, none⟩ = some (.int .i64 a1_0) := (blk_cell BK1081.out 0).trans rfl; have hcz45_1 : w39.cell? ⟨gb1081, 1, none⟩ = some (.int .i64 a1_1) := (blk_cell BK1081.out 1).trans rfl; have hfz45_0 := blk_frozen BK1081.out 0; have hfz45_1 := blk_frozen BK1081.out 1) | ((with_reducible refine gate_callee (f := 55) rfl ?_); refine goesL_ (some 43) rfl rfl Try.func55 (by kernel_rfl) rfl #[.agg #[.int .i64 a0_0, .int .i64 a0_1], .agg #[.int .i64 a1_0, .int .i64 a1_1]] rfl (by (try simp only [List.map_toArray, List.map_cons, List.map_nil]); first | done | rfl | (simp only [List.length_drop, List.length_take]; rfl)) ?_; (with_reducible refine (spans_Times.calls a0_0 a0_1 a1_0 a1_1 t1092 t1093 t1094 _ A28.out).mono ?_); rintro e w46 ⟨rfl, hb⟩; refine ⟨_, rfl, ?_⟩; have n0_ := Aside0.mk (blk_below (g := gb1080) (o := .cells #[.int .i64 a0_0, .int .i64 a0_1] 27 (0, 0)) (by (with_reducible repeat (first | refine blk_drewN ?_ _ | refine blk_drew ?_ | refine blk_alloc ?_ _)); refine blk_far ?_ NB1080_1091.out _; (with_reducible repeat (first | refine blk_drewN ?_ _ | refine blk_drew ?_ | refine blk_alloc ?_ _)); refine blk_far ?_ NB1080_1091.out _; (with_reducible repeat (first | refine blk_drewN ?_ _ | refine blk_drew ?_ | refine blk_alloc ?_ _)); exact BK1080.out) hb); have n1_ := Aside0.mk (blk_below (g := gb1081) (o := .cells #[.int .i64 a1_0, .int .i64 a1_1] 27 (0, 0)) (by (with_reducible repeat (first | refine blk_drewN ?_ _ | refine blk_drew ?_ | refine blk_alloc ?_ _)); refine blk_far ?_ NB1081_1091.out _; (with_reducible repeat (first | refine blk_drewN ?_ _ | refine blk_drew ?_ | refine blk_alloc ?_ _)); refine blk_far ?_ NB1081_1091.out _; (with_reducible repeat (first | refine blk_drewN ?_ _ | refine blk_drew ?_ | refine blk_alloc ?_ _)); exact BK1081.out) hb); have n2_ := Aside0.mk (blk_below (g := gb1082) (o := .cells #[.int .i64 a2_0, .int .i64 a2_1, .int .i64 a2_2, .int .i64 a2_3] 92 (0, 0)) (by (with_reducible repeat (first | refine blk_drewN ?_ _ | refine blk_drew ?_ | refine blk_alloc ?_ _)); refine blk_far ?_ NB1082_1091.out _; (with_reducible repeat (first | refine blk_drewN ?_ _ | refine blk_drew ?_ | refine blk_alloc ?_ _)); refine blk_far ?_ NB1082_1091.out _; (with_reducible repeat (first | refine blk_drewN ?_ _ | refine blk_drew ?_ | refine blk_alloc ?_ _)); exact BK1082.out) hb); have n3_ := Aside0.mk (blk_below (g := gb1091) (o := .cells #[.int .i64 t1088, .int .i64 t1089] 27 (0, 0)) (by (with_reducible repeat (first | refine blk_drewN ?_ _ | refine blk_drew ?_ | refine blk_alloc ?_ _)); refine blk_put (cs := #[.int .i64 t1088, .int .i64 0]) ?_ 1 _ rfl; (with_reducible repeat (first | refine blk_drewN ?_ _ | refine blk_drew ?_ | refine blk_alloc ?_ _)); refine blk_put (cs := #[.int .i64 0, .int .i64 0]) ?_ 0 _ rfl; (with_reducible repeat (first | refine blk_drewN ?_ _ | refine blk_drew ?_ | refine blk_alloc ?_ _)); exact BK1091.out) hb); have n4_ := Aside0.mk (below_step (by repeat (first | (with_reducible first | exact HB.out | apply below_alloc | apply pw_below_drewN | apply below_drew1 | refine below_set ?_ GE1080.out | refine below_set ?_ GE1081.out | refine below_set ?_ GE1082.out | refine below_set ?_ GE1091.out) | exact HB.out)) hb); clear BK1080; clear BK1081; clear BK1082; clear BK1091; clear HB; have BK1080 := n0_; have BK1081 := n1_; have BK1082 := n2_; have BK1091 := n3_; have HB := n4_; clear n0_ n1_ n2_ n3_ n4_; (try clear hb); (try clear hb2); (try clear hk); (try clear hi)) | ((with_reducible refine gate_dst (N := 11) rfl ?_); refine box_event ?hg (N := 11) ?hd (cs := #[.int .i64 0, .int .i64 0]) (t := 27) ?hr ?_; (case hd => rfl); (case hg => rfl); (case hr => first | (go_simp; done) | (go_simp; rfl)); intro gb1095 hg w47 hbox hb; have n0_ := Aside0.mk (blk_below (g := gb1080) (o := .cells #[.int .i64 a0_0, .int .i64 a0_1] 27 (0, 0)) (by (with_reducible repeat (first | refine blk_drewN ?_ _ | refine blk_drew ?_ | refine blk_alloc ?_ _)); exact BK1080.out) hb); have n1_ := Aside0.mk (blk_below (g := gb1081) (o := .cells #[.int .i64 a1_0, .int .i64 a1_1] 27 (0, 0)) (by (with_reducible repeat (first | refine blk_drewN ?_ _ | refine blk_drew ?_ | refine blk_alloc ?_ _)); exact BK1081.out) hb); have n2_ := Aside0.mk (blk_below (g := gb1082) (o := .cells #[.int .i64 a2_0, .int .i64 a2_1, .int .i64 a2_2, .int .i64 a2_3] 92 (0, 0)) (by (with_reducible repeat (first | refine blk_drewN ?_ _ | refine blk_drew ?_ | refine blk_alloc ?_ _)); exact BK1082.out) hb); have n3_ := Aside0.mk (blk_below (g := gb1091) (o := .cells #[.int .i64 t1088, .int .i64 t1089] 27 (0, 0)) (by (with_reducible repeat (first | refine blk_drewN ?_ _ | refine blk_drew ?_ | refine blk_alloc ?_ _)); exact BK1091.out) hb); have n4_ := Aside0.mk (below_step (by repeat (first | (with_reducible first | exact HB.out | apply below_alloc | apply pw_below_drewN | apply below_drew1 | refine below_set ?_ GE1080.out | refine below_set ?_ GE1081.out | refine below_set ?_ GE1082.out | refine below_set ?_ GE1091.out) | exact HB.out)) hb); have n5_ := Aside0.mk (hbox); have n6_ := Aside0.mk ((by rw [hg]; exact (below_size (by repeat (first | (with_reducible first | exact HB.out | apply below_alloc | apply pw_below_drewN | apply below_drew1 | refine below_set ?_ GE1080.out | refine below_set ?_ GE1081.out | refine below_set ?_ GE1082.out | refine below_set ?_ GE1091.out) | exact HB.out))) : w.heap.size ≤ gb1095)); have n7_ := Aside0.mk ((by rw [hg]; exact (below_size (by repeat (first | (with_reducible first | exact HB.out | apply below_alloc | apply pw_below_drewN | apply below_drew1 | refine below_set ?_ GE1080.out | refine below_set ?_ GE1081.out | refine below_set ?_ GE1082.out | refine below_set ?_ GE1091.out) | exact HB.out))) : w.heap.size ≤ gb1095)); have n8_ := Aside0.mk ((by rw [hg]; exact Nat.ne_of_lt (blk_lt (g := gb1080) (o := .cells #[.int .i64 a0_0, .int .i64 a0_1] 27 (0, 0)) (by (with_reducible repeat (first | refine blk_drewN ?_ _ | refine blk_drew ?_ | refine blk_alloc ?_ _)); exact BK1080.out)) : gb1080 ≠ gb1095)); have n9_ := Aside0.mk ((by rw [hg]; exact Nat.ne_of_gt (blk_lt (g := gb1080) (o := .cells #[.int .i64 a0_0, .int .i64 a0_1] 27 (0, 0)) (by (with_reducible repeat (first | refine blk_drewN ?_ _ | refine blk_drew ?_ | refine blk_alloc ?_ _)); exact BK1080.out)) : gb1095 ≠ gb1080)); have n10_ := Aside0.mk ((by rw [hg]; exact Nat.ne_of_lt (blk_lt (g := gb1081) (o := .cells #[.int .i64 a1_0, .int .i64 a1_1] 27 (0, 0)) (by (with_reducible repeat (first | refine blk_drewN ?_ _ | refine blk_drew ?_ | refine blk_alloc ?_ _)); exact BK1081.out)) : gb1081 ≠ gb1095)); have n11_ := Aside0.mk ((by rw [hg]; exact Nat.ne_of_gt (blk_lt (g := gb1081) (o := .cells #[.int .i64 a1_0, .int .i64 a1_1] 27 (0, 0)) (by (with_reducible repeat (first | refine blk_drewN ?_ _ | refine blk_drew ?_ | refine blk_alloc ?_ _)); exact BK1081.out)) : gb1095 ≠ gb1081)); have n12_ := Aside0.mk ((by rw [hg]; exact Nat.ne_of_lt (blk_lt (g := gb1082) (o := .cells #[.int .i64 a2_0, .int .i64 a2_1, .int .i64 a2_2, .int .i64 a2_3] 92 (0, 0)) (by (with_reducible repeat (first | refine blk_drewN ?_ _ | refine blk_drew ?_ | refine blk_alloc ?_ _)); exact BK1082.out)) : gb1082 ≠ gb1095)); have n13_ := Aside0.mk ((by rw [hg]; exact Nat.ne_of_gt (blk_lt (g := gb1082) (o := .cells #[.int .i64 a2_0, .int .i64 a2_1, .int .i64 a2_2, .int .i64 a2_3] 92 (0, 0)) (by (with_reducible repeat (first | refine blk_drewN ?_ _ | refine blk_drew ?_ | refine blk_alloc ?_ _)); exact BK1082.out)) : gb1095 ≠ gb1082)); have n14_ := Aside0.mk ((by rw [hg]; exact Nat.ne_of_lt (blk_lt (g := gb1091) (o := .cells #[.int .i64 t1088, .int .i64 t1089] 27 (0, 0)) (by (with_reducible repeat (first | refine blk_drewN ?_ _ | refine blk_drew ?_ | refine blk_alloc ?_ _)); exact BK1091.out)) : gb1091 ≠ gb1095)); have n15_ := Aside0.mk ((by rw [hg]; exact Nat.ne_of_gt (blk_lt (g := gb1091) (o := .cells #[.int .i64 t1088, .int .i64 t1089] 27 (0, 0)) (by (with_reducible repeat (first | refine blk_drewN ?_ _ | refine blk_drew ?_ | refine blk_alloc ?_ _)); exact BK1091.out)) : gb1095 ≠ gb1091)); clear BK1080; clear BK1081; clear BK1082; clear BK1091; clear HB; have BK1080 := n0_; have BK1081 := n1_; have BK1082 := n2_; have BK1091 := n3_; have HB := n4_; have BK1095 := n5_; have GW1095 := n6_; have GE1095 := n7_; have NB1080_1095 := n8_; have NB1095_1080 := n9_; have NB1081_1095 := n10_; have NB1095_1081 := n11_; have NB1082_1095 := n12_; have NB1095_1082 := n13_; have NB1091_1095 := n14_; have NB1095_1091 := n15_; clear n0_ n1_ n2_ n3_ n4_ n5_ n6_ n7_ n8_ n9_ n10_ n11_ n12_ n13_ n14_ n15_; clear hb hbox hg; have hnb48 := NB1095_1080.out; have hnc48 := NB1080_1095.out; have hnb49 := NB1095_1081.out; have hnc49 := NB1081_1095.out; have hnb50 := NB1095_1082.out; have hnc50 := NB1082_1095.out; have hnb51 := NB1095_1091.out; have hnc51 := NB1091_1095.out; have hcz52_0 : w47.cell? ⟨gb1095, 0, none⟩ = some (.int .i64 0) := (blk_cell BK1095.out 0).trans rfl; have hcz52_1 : w47.cell? ⟨gb1095, 1, none⟩ = some (.int .i64 0) := (blk_cell BK1095.out 1).trans rfl; have hfz52_0 := blk_frozen BK1095.out 0; have hfz52_1 := blk_frozen BK1095.out 1))
        (try simp only [Act.put, List.setIfInBounds_toArray, List.set_cons_zero, List.set_cons_succ])
        go_cut [91] (fun v91 wc => ∃ (kq : Nat) (x91_28 : Bool), v91 = .bool x91_28 ∧ Aside0 (swashplatelaw01_SpansEach.j1 kq t1086 t1087 t1094 x91_28 a0_0 a0_1 a1_0 a1_1 a2_0 a2_1 a2_2 a2_3 t1092 t1093 = some r) ∧ Aside0 (kq ≤ kj3) ∧ Aside0 (wc.heap[gb1080]? = some (.cells #[.int .i64 a0_0, .int .i64 a0_1] 27 (0, 0))) ∧ Aside0 (wc.heap[gb1081]? = some (.cells #[.int .i64 a1_0, .int .i64 a1_1] 27 (0, 0))) ∧ Aside0 (wc.heap[gb1082]? = some (.cells #[.int .i64 a2_0, .int .i64 a2_1, .int .i64 a2_2, .int .i64 a2_3] 92 (0, 0))) ∧ Aside0 (wc.heap[gb1091]? = some (.cells #[.int .i64 t1088, .int .i64 t1089] 27 (0, 0))) ∧ Aside0 (wc.heap[gb1095]? = some (.cells #[.int .i64 t1092, .int .i64 t1093] 27 (0, 0))) ∧ Aside0 (Below w.heap.size w wc))
        case first =>
          have H := HC29.out
          clear HC29
          by_cases c53 : t1090 = 0
          · rw [if_pos c53] at H
            have c53b0 : (t1090 == 0) = true := beq_iff_eq.mpr c53
            have c53b1 : (t1090 != 0) = false := bne_eq_false_iff_eq.mpr c53
            clear c53
            (first | rw [c53b0] | (simp only [i64_w, i32_w]; rw [c53b0]) | skip)
            by_cases c54 : (wrap64 (t1086 + t1087)) < t1088
            · rw [if_pos c54] at H
              have c54b0 : decide ((wrap64 (t1086 + t1087)) < t1088) = true := decide_eq_true c54
              clear c54
              have H' := Aside0.mk H
              clear H
              have hnb55 := NB1091_1080.out
              have hnc55 := NB1080_1091.out
              have hnb56 := NB1091_1081.out
              have hnc56 := NB1081_1091.out
              have hnb57 := NB1091_1082.out
              have hnc57 := NB1082_1091.out
              have hnb58 := NB1091_1095.out
              have hnc58 := NB1095_1091.out
              have hcz59_0 : w47.cell? ⟨gb1091, 0, none⟩ = some (.int .i64 t1088) := (blk_cell BK1091.out 0).trans rfl
              have hcz59_1 : w47.cell? ⟨gb1091, 1, none⟩ = some (.int .i64 t1089) := (blk_cell BK1091.out 1).trans rfl
              have hfz59_0 := blk_frozen BK1091.out 0
              have hfz59_1 := blk_frozen BK1091.out 1
              go_wp2
              go_meet
              case rel => exact ⟨_, (true), (by first | rfl | (simp; done) | (simp [*]; done)), H', ⟨by have := HJ3.out; first | omega | exact Nat.le_refl _⟩, ⟨by (with_reducible repeat (first | refine blk_drewN ?_ _ | refine blk_drew ?_ | refine blk_alloc ?_ _)); refine blk_far ?_ NB1080_1095.out _; (with_reducible repeat (first | refine blk_drewN ?_ _ | refine blk_drew ?_ | refine blk_alloc ?_ _)); refine blk_far ?_ NB1080_1095.out _; (with_reducible repeat (first | refine blk_drewN ?_ _ | refine blk_drew ?_ | refine blk_alloc ?_ _)); exact BK1080.out⟩, ⟨by (with_reducible repeat (first | refine blk_drewN ?_ _ | refine blk_drew ?_ | refine blk_alloc ?_ _)); refine blk_far ?_ NB1081_1095.out _; (with_reducible repeat (first | refine blk_drewN ?_ _ | refine blk_drew ?_ | refine blk_alloc ?_ _)); refine blk_far ?_ NB1081_1095.out _; (with_reducible repeat (first | refine blk_drewN ?_ _ | refine blk_drew ?_ | refine blk_alloc ?_ _)); exact BK1081.out⟩, ⟨by (with_reducible repeat (first | refine blk_drewN ?_ _ | refine blk_drew ?_ | refine blk_alloc ?_ _)); refine blk_far ?_ NB1082_1095.out _; (with_reducible repeat (first | refine blk_drewN ?_ _ | refine blk_drew ?_ | refine blk_alloc ?_ _)); refine blk_far ?_ NB1082_1095.out _; (with_reducible repeat (first | refine blk_drewN ?_ _ | refine blk_drew ?_ | refine blk_alloc ?_ _)); exact BK1082.out⟩, ⟨by (with_reducible repeat (first | refine blk_drewN ?_ _ | refine blk_drew ?_ | refine blk_alloc ?_ _)); refine blk_far ?_ NB1091_1095.out _; (with_reducible repeat (first | refine blk_drewN ?_ _ | refine blk_drew ?_ | refine blk_alloc ?_ _)); refine blk_far ?_ NB1091_1095.out _; (with_reducible repeat (first | refine blk_drewN ?_ _ | refine blk_drew ?_ | refine blk_alloc ?_ _)); exact BK1091.out⟩, ⟨by (with_reducible repeat (first | refine blk_drewN ?_ _ | refine blk_drew ?_ | refine blk_alloc ?_ _)); refine blk_put (cs := #[.int .i64 t1092, .int .i64 0]) ?_ 1 _ rfl; (with_reducible repeat (first | refine blk_drewN ?_ _ | refine blk_drew ?_ | refine blk_alloc ?_ _)); refine blk_put (cs := #[.int .i64 0, .int .i64 0]) ?_ 0 _ rfl; (with_reducible repeat (first | refine blk_drewN ?_ _ | refine blk_drew ?_ | refine blk_alloc ?_ _)); exact BK1095.out⟩, ⟨by repeat (first | (with_reducible first | exact HB.out | apply below_alloc | apply pw_below_drewN | apply below_drew1 | refine below_set ?_ GE1080.out | refine below_set ?_ GE1081.out | refine below_set ?_ GE1082.out | refine below_set ?_ GE1091.out | refine below_set ?_ GE1095.out) | exact HB.out)⟩⟩
            · rw [if_neg c54] at H
              have c54b0 : decide ((wrap64 (t1086 + t1087)) < t1088) = false := decide_eq_false c54
              clear c54
              by_cases c60 : (wrap64 (t1086 + t1087)) > t1089
              · rw [if_pos c60] at H
                have c60b0 : decide (t1089 < (wrap64 (t1086 + t1087))) = true := decide_eq_true c60
                clear c60
                have H' := Aside0.mk H
                clear H
                have hnb61 := NB1091_1080.out
                have hnc61 := NB1080_1091.out
                have hnb62 := NB1091_1081.out
                have hnc62 := NB1081_1091.out
                have hnb63 := NB1091_1082.out
                have hnc63 := NB1082_1091.out
                have hnb64 := NB1091_1095.out
                have hnc64 := NB1095_1091.out
                have hcz65_0 : w47.cell? ⟨gb1091, 0, none⟩ = some (.int .i64 t1088) := (blk_cell BK1091.out 0).trans rfl
                have hcz65_1 : w47.cell? ⟨gb1091, 1, none⟩ = some (.int .i64 t1089) := (blk_cell BK1091.out 1).trans rfl
                have hfz65_0 := blk_frozen BK1091.out 0
                have hfz65_1 := blk_frozen BK1091.out 1
                go_wp2
                go_meet
                case rel => exact ⟨_, (true), (by first | rfl | (simp; done) | (simp [*]; done)), H', ⟨by have := HJ3.out; first | omega | exact Nat.le_refl _⟩, ⟨by (with_reducible repeat (first | refine blk_drewN ?_ _ | refine blk_drew ?_ | refine blk_alloc ?_ _)); refine blk_far ?_ NB1080_1095.out _; (with_reducible repeat (first | refine blk_drewN ?_ _ | refine blk_drew ?_ | refine blk_alloc ?_ _)); refine blk_far ?_ NB1080_1095.out _; (with_reducible repeat (first | refine blk_drewN ?_ _ | refine blk_drew ?_ | refine blk_alloc ?_ _)); exact BK1080.out⟩, ⟨by (with_reducible repeat (first | refine blk_drewN ?_ _ | refine blk_drew ?_ | refine blk_alloc ?_ _)); refine blk_far ?_ NB1081_1095.out _; (with_reducible repeat (first | refine blk_drewN ?_ _ | refine blk_drew ?_ | refine blk_alloc ?_ _)); refine blk_far ?_ NB1081_1095.out _; (with_reducible repeat (first | refine blk_drewN ?_ _ | refine blk_drew ?_ | refine blk_alloc ?_ _)); exact BK1081.out⟩, ⟨by (with_reducible repeat (first | refine blk_drewN ?_ _ | refine blk_drew ?_ | refine blk_alloc ?_ _)); refine blk_far ?_ NB1082_1095.out _; (with_reducible repeat (first | refine blk_drewN ?_ _ | refine blk_drew ?_ | refine blk_alloc ?_ _)); refine blk_far ?_ NB1082_1095.out _; (with_reducible repeat (first | refine blk_drewN ?_ _ | refine blk_drew ?_ | refine blk_alloc ?_ _)); exact BK1082.out⟩, ⟨by (with_reducible repeat (first | refine blk_drewN ?_ _ | refine blk_drew ?_ | refine blk_alloc ?_ _)); refine blk_far ?_ NB1091_1095.out _; (with_reducible repeat (first | refine blk_drewN ?_ _ | refine blk_drew ?_ | refine blk_alloc ?_ _)); refine blk_far ?_ NB1091_1095.out _; (with_reducible repeat (first | refine blk_drewN ?_ _ | refine blk_drew ?_ | refine blk_alloc ?_ _)); exact BK1091.out⟩, ⟨by (with_reducible repeat (first | refine blk_drewN ?_ _ | refine blk_drew ?_ | refine blk_alloc ?_ _)); refine blk_put (cs := #[.int .i64 t1092, .int .i64 0]) ?_ 1 _ rfl; (with_reducible repeat (first | refine blk_drewN ?_ _ | refine blk_drew ?_ | refine blk_alloc ?_ _)); refine blk_put (cs := #[.int .i64 0, .int .i64 0]) ?_ 0 _ rfl; (with_reducible repeat (first | refine blk_drewN ?_ _ | refine blk_drew ?_ | refine blk_alloc ?_ _)); exact BK1095.out⟩, ⟨by repeat (first | (with_reducible first | exact HB.out | apply below_alloc | apply pw_below_drewN | apply below_drew1 | refine below_set ?_ GE1080.out | refine below_set ?_ GE1081.out | refine below_set ?_ GE1082.out | refine below_set ?_ GE1091.out | refine below_set ?_ GE1095.out) | exact HB.out)⟩⟩
              · rw [if_neg c60] at H
                have c60b0 : decide (t1089 < (wrap64 (t1086 + t1087))) = false := decide_eq_false c60
                clear c60
                by_cases c66 : t1088 = (wrap64 (a0_0 + a1_0))
                · rw [if_pos c66] at H
                  have c66b0 : (t1088 == (wrap64 (a0_0 + a1_0))) = true := beq_iff_eq.mpr c66
                  have c66b1 : (t1088 != (wrap64 (a0_0 + a1_0))) = false := bne_eq_false_iff_eq.mpr c66
                  clear c66
                  by_cases c67 : t1089 = (wrap64 (a0_1 + a1_1))
                  · rw [if_pos c67] at H
                    have c67b0 : (t1089 == (wrap64 (a0_1 + a1_1))) = true := beq_iff_eq.mpr c67
                    have c67b1 : (t1089 != (wrap64 (a0_1 + a1_1))) = false := bne_eq_false_iff_eq.mpr c67
                    clear c67
                    have H' := Aside0.mk H
                    clear H
                    have hnb68 := NB1091_1080.out
                    have hnc68 := NB1080_1091.out
                    have hnb69 := NB1091_1081.out
                    have hnc69 := NB1081_1091.out
                    have hnb70 := NB1091_1082.out
                    have hnc70 := NB1082_1091.out
                    have hnb71 := NB1091_1095.out
                    have hnc71 := NB1095_1091.out
                    have hcz72_0 : w47.cell? ⟨gb1091, 0, none⟩ = some (.int .i64 t1088) := (blk_cell BK1091.out 0).trans rfl
                    have hcz72_1 : w47.cell? ⟨gb1091, 1, none⟩ = some (.int .i64 t1089) := (blk_cell BK1091.out 1).trans rfl
                    have hfz72_0 := blk_frozen BK1091.out 0
                    have hfz72_1 := blk_frozen BK1091.out 1
                    have hnb73 := NB1080_1081.out
                    have hnc73 := NB1081_1080.out
                    have hnb74 := NB1080_1082.out
                    have hnc74 := NB1082_1080.out
                    have hnb75 := NB1080_1095.out
                    have hnc75 := NB1095_1080.out
                    have hcz76_0 : w47.cell? ⟨gb1080, 0, none⟩ = some (.int .i64 a0_0) := (blk_cell BK1080.out 0).trans rfl
                    have hcz76_1 : w47.cell? ⟨gb1080, 1, none⟩ = some (.int .i64 a0_1) := (blk_cell BK1080.out 1).trans rfl
                    have hfz76_0 := blk_frozen BK1080.out 0
                    have hfz76_1 := blk_frozen BK1080.out 1
                    have hnb77 := NB1081_1082.out
                    have hnc77 := NB1082_1081.out
                    have hnb78 := NB1081_1095.out
                    have hnc78 := NB1095_1081.out
                    have hcz79_0 : w47.cell? ⟨gb1081, 0, none⟩ = some (.int .i64 a1_0) := (blk_cell BK1081.out 0).trans rfl
                    have hcz79_1 : w47.cell? ⟨gb1081, 1, none⟩ = some (.int .i64 a1_1) := (blk_cell BK1081.out 1).trans rfl
                    have hfz79_0 := blk_frozen BK1081.out 0
                    have hfz79_1 := blk_frozen BK1081.out 1
                    go_wp2
                    go_meet
                    case rel => exact ⟨_, (false), (by first | rfl | (simp; done) | (simp [*]; done)), H', ⟨by have := HJ3.out; first | omega | exact Nat.le_refl _⟩, ⟨by (with_reducible repeat (first | refine blk_drewN ?_ _ | refine blk_drew ?_ | refine blk_alloc ?_ _)); refine blk_far ?_ NB1080_1095.out _; (with_reducible repeat (first | refine blk_drewN ?_ _ | refine blk_drew ?_ | refine blk_alloc ?_ _)); refine blk_far ?_ NB1080_1095.out _; (with_reducible repeat (first | refine blk_drewN ?_ _ | refine blk_drew ?_ | refine blk_alloc ?_ _)); exact BK1080.out⟩, ⟨by (with_reducible repeat (first | refine blk_drewN ?_ _ | refine blk_drew ?_ | refine blk_alloc ?_ _)); refine blk_far ?_ NB1081_1095.out _; (with_reducible repeat (first | refine blk_drewN ?_ _ | refine blk_drew ?_ | refine blk_alloc ?_ _)); refine blk_far ?_ NB1081_1095.out _; (with_reducible repeat (first | refine blk_drewN ?_ _ | refine blk_drew ?_ | refine blk_alloc ?_ _)); exact BK1081.out⟩, ⟨by (with_reducible repeat (first | refine blk_drewN ?_ _ | refine blk_drew ?_ | refine blk_alloc ?_ _)); refine blk_far ?_ NB1082_1095.out _; (with_reducible repeat (first | refine blk_drewN ?_ _ | refine blk_drew ?_ | refine blk_alloc ?_ _)); refine blk_far ?_ NB1082_1095.out _; (with_reducible repeat (first | refine blk_drewN ?_ _ | refine blk_drew ?_ | refine blk_alloc ?_ _)); exact BK1082.out⟩, ⟨by (with_reducible repeat (first | refine blk_drewN ?_ _ | refine blk_drew ?_ | refine blk_alloc ?_ _)); refine blk_far ?_ NB1091_1095.out _; (with_reducible repeat (first | refine blk_drewN ?_ _ | refine blk_drew ?_ | refine blk_alloc ?_ _)); refine blk_far ?_ NB1091_1095.out _; (with_reducible repeat (first | refine blk_drewN ?_ _ | refine blk_drew ?_ | refine blk_alloc ?_ _)); exact BK1091.out⟩, ⟨by (with_reducible repeat (first | refine blk_drewN ?_ _ | refine blk_drew ?_ | refine blk_alloc ?_ _)); refine blk_put (cs := #[.int .i64 t1092, .int .i64 0]) ?_ 1 _ rfl; (with_reducible repeat (first | refine blk_drewN ?_ _ | refine blk_drew ?_ | refine blk_alloc ?_ _)); refine blk_put (cs := #[.int .i64 0, .int .i64 0]) ?_ 0 _ rfl; (with_reducible repeat (first | refine blk_drewN ?_ _ | refine blk_drew ?_ | refine blk_alloc ?_ _)); exact BK1095.out⟩, ⟨by repeat (first | (with_reducible first | exact HB.out | apply below_alloc | apply pw_below_drewN | apply below_drew1 | refine below_set ?_ GE1080.out | refine below_set ?_ GE1081.out | refine below_set ?_ GE1082.out | refine below_set ?_ GE1091.out | refine below_set ?_ GE1095.out) | exact HB.out)⟩⟩
                  · rw [if_neg c67] at H
                    have c67b0 : (t1089 == (wrap64 (a0_1 + a1_1))) = false := beq_eq_false_iff_ne.mpr c67
                    have c67b1 : (t1089 != (wrap64 (a0_1 + a1_1))) = true := bne_iff_ne.mpr c67
                    have H' := Aside0.mk H
                    clear H
                    have hnb80 := NB1091_1080.out
                    have hnc80 := NB1080_1091.out
                    have hnb81 := NB1091_1081.out
                    have hnc81 := NB1081_1091.out
                    have hnb82 := NB1091_1082.out
                    have hnc82 := NB1082_1091.out
                    have hnb83 := NB1091_1095.out
                    have hnc83 := NB1095_1091.out
                    have hcz84_0 : w47.cell? ⟨gb1091, 0, none⟩ = some (.int .i64 t1088) := (blk_cell BK1091.out 0).trans rfl
                    have hcz84_1 : w47.cell? ⟨gb1091, 1, none⟩ = some (.int .i64 t1089) := (blk_cell BK1091.out 1).trans rfl
                    have hfz84_0 := blk_frozen BK1091.out 0
                    have hfz84_1 := blk_frozen BK1091.out 1
                    have hnb85 := NB1080_1081.out
                    have hnc85 := NB1081_1080.out
                    have hnb86 := NB1080_1082.out
                    have hnc86 := NB1082_1080.out
                    have hnb87 := NB1080_1095.out
                    have hnc87 := NB1095_1080.out
                    have hcz88_0 : w47.cell? ⟨gb1080, 0, none⟩ = some (.int .i64 a0_0) := (blk_cell BK1080.out 0).trans rfl
                    have hcz88_1 : w47.cell? ⟨gb1080, 1, none⟩ = some (.int .i64 a0_1) := (blk_cell BK1080.out 1).trans rfl
                    have hfz88_0 := blk_frozen BK1080.out 0
                    have hfz88_1 := blk_frozen BK1080.out 1
                    have hnb89 := NB1081_1082.out
                    have hnc89 := NB1082_1081.out
                    have hnb90 := NB1081_1095.out
                    have hnc90 := NB1095_1081.out
                    have hcz91_0 : w47.cell? ⟨gb1081, 0, none⟩ = some (.int .i64 a1_0) := (blk_cell BK1081.out 0).trans rfl
                    have hcz91_1 : w47.cell? ⟨gb1081, 1, none⟩ = some (.int .i64 a1_1) := (blk_cell BK1081.out 1).trans rfl
                    have hfz91_0 := blk_frozen BK1081.out 0
                    have hfz91_1 := blk_frozen BK1081.out 1
                    go_wp2
                    go_meet
                    case rel => exact ⟨_, (true), (by first | rfl | (simp; done) | (simp [*]; done)), H', ⟨by have := HJ3.out; first | omega | exact Nat.le_refl _⟩, ⟨by (with_reducible repeat (first | refine blk_drewN ?_ _ | refine blk_drew ?_ | refine blk_alloc ?_ _)); refine blk_far ?_ NB1080_1095.out _; (with_reducible repeat (first | refine blk_drewN ?_ _ | refine blk_drew ?_ | refine blk_alloc ?_ _)); refine blk_far ?_ NB1080_1095.out _; (with_reducible repeat (first | refine blk_drewN ?_ _ | refine blk_drew ?_ | refine blk_alloc ?_ _)); exact BK1080.out⟩, ⟨by (with_reducible repeat (first | refine blk_drewN ?_ _ | refine blk_drew ?_ | refine blk_alloc ?_ _)); refine blk_far ?_ NB1081_1095.out _; (with_reducible repeat (first | refine blk_drewN ?_ _ | refine blk_drew ?_ | refine blk_alloc ?_ _)); refine blk_far ?_ NB1081_1095.out _; (with_reducible repeat (first | refine blk_drewN ?_ _ | refine blk_drew ?_ | refine blk_alloc ?_ _)); exact BK1081.out⟩, ⟨by (with_reducible repeat (first | refine blk_drewN ?_ _ | refine blk_drew ?_ | refine blk_alloc ?_ _)); refine blk_far ?_ NB1082_1095.out _; (with_reducible repeat (first | refine blk_drewN ?_ _ | refine blk_drew ?_ | refine blk_alloc ?_ _)); refine blk_far ?_ NB1082_1095.out _; (with_reducible repeat (first | refine blk_drewN ?_ _ | refine blk_drew ?_ | refine blk_alloc ?_ _)); exact BK1082.out⟩, ⟨by (with_reducible repeat (first | refine blk_drewN ?_ _ | refine blk_drew ?_ | refine blk_alloc ?_ _)); refine blk_far ?_ NB1091_1095.out _; (with_reducible repeat (first | refine blk_drewN ?_ _ | refine blk_drew ?_ | refine blk_alloc ?_ _)); refine blk_far ?_ NB1091_1095.out _; (with_reducible repeat (first | refine blk_drewN ?_ _ | refine blk_drew ?_ | refine blk_alloc ?_ _)); exact BK1091.out⟩, ⟨by (with_reducible repeat (first | refine blk_drewN ?_ _ | refine blk_drew ?_ | refine blk_alloc ?_ _)); refine blk_put (cs := #[.int .i64 t1092, .int .i64 0]) ?_ 1 _ rfl; (with_reducible repeat (first | refine blk_drewN ?_ _ | refine blk_drew ?_ | refine blk_alloc ?_ _)); refine blk_put (cs := #[.int .i64 0, .int .i64 0]) ?_ 0 _ rfl; (with_reducible repeat (first | refine blk_drewN ?_ _ | refine blk_drew ?_ | refine blk_alloc ?_ _)); exact BK1095.out⟩, ⟨by repeat (first | (with_reducible first | exact HB.out | apply below_alloc | apply pw_below_drewN | apply below_drew1 | refine below_set ?_ GE1080.out | refine below_set ?_ GE1081.out | refine below_set ?_ GE1082.out | refine below_set ?_ GE1091.out | refine below_set ?_ GE1095.out) | exact HB.out)⟩⟩
                · rw [if_neg c66] at H
                  have c66b0 : (t1088 == (wrap64 (a0_0 + a1_0))) = false := beq_eq_false_iff_ne.mpr c66
                  have c66b1 : (t1088 != (wrap64 (a0_0 + a1_0))) = true := bne_iff_ne.mpr c66
                  have H' := Aside0.mk H
                  clear H
                  have hnb92 := NB1091_1080.out
                  have hnc92 := NB1080_1091.out
                  have hnb93 := NB1091_1081.out
                  have hnc93 := NB1081_1091.out
                  have hnb94 := NB1091_1082.out
                  have hnc94 := NB1082_1091.out
                  have hnb95 := NB1091_1095.out
                  have hnc95 := NB1095_1091.out
                  have hcz96_0 : w47.cell? ⟨gb1091, 0, none⟩ = some (.int .i64 t1088) := (blk_cell BK1091.out 0).trans rfl
                  have hcz96_1 : w47.cell? ⟨gb1091, 1, none⟩ = some (.int .i64 t1089) := (blk_cell BK1091.out 1).trans rfl
                  have hfz96_0 := blk_frozen BK1091.out 0
                  have hfz96_1 := blk_frozen BK1091.out 1
                  have hnb97 := NB1080_1081.out
                  have hnc97 := NB1081_1080.out
                  have hnb98 := NB1080_1082.out
                  have hnc98 := NB1082_1080.out
                  have hnb99 := NB1080_1095.out
                  have hnc99 := NB1095_1080.out
                  have hcz100_0 : w47.cell? ⟨gb1080, 0, none⟩ = some (.int .i64 a0_0) := (blk_cell BK1080.out 0).trans rfl
                  have hcz100_1 : w47.cell? ⟨gb1080, 1, none⟩ = some (.int .i64 a0_1) := (blk_cell BK1080.out 1).trans rfl
                  have hfz100_0 := blk_frozen BK1080.out 0
                  have hfz100_1 := blk_frozen BK1080.out 1
                  have hnb101 := NB1081_1082.out
                  have hnc101 := NB1082_1081.out
                  have hnb102 := NB1081_1095.out
                  have hnc102 := NB1095_1081.out
                  have hcz103_0 : w47.cell? ⟨gb1081, 0, none⟩ = some (.int .i64 a1_0) := (blk_cell BK1081.out 0).trans rfl
                  have hcz103_1 : w47.cell? ⟨gb1081, 1, none⟩ = some (.int .i64 a1_1) := (blk_cell BK1081.out 1).trans rfl
                  have hfz103_0 := blk_frozen BK1081.out 0
                  have hfz103_1 := blk_frozen BK1081.out 1
                  go_wp2
                  go_meet
                  case rel => exact ⟨_, (true), (by first | rfl | (simp; done) | (simp [*]; done)), H', ⟨by have := HJ3.out; first | omega | exact Nat.le_refl _⟩, ⟨by (with_reducible repeat (first | refine blk_drewN ?_ _ | refine blk_drew ?_ | refine blk_alloc ?_ _)); refine blk_far ?_ NB1080_1095.out _; (with_reducible repeat (first | refine blk_drewN ?_ _ | refine blk_drew ?_ | refine blk_alloc ?_ _)); refine blk_far ?_ NB1080_1095.out _; (with_reducible repeat (first | refine blk_drewN ?_ _ | refine blk_drew ?_ | refine blk_alloc ?_ _)); exact BK1080.out⟩, ⟨by (with_reducible repeat (first | refine blk_drewN ?_ _ | refine blk_drew ?_ | refine blk_alloc ?_ _)); refine blk_far ?_ NB1081_1095.out _; (with_reducible repeat (first | refine blk_drewN ?_ _ | refine blk_drew ?_ | refine blk_alloc ?_ _)); refine blk_far ?_ NB1081_1095.out _; (with_reducible repeat (first | refine blk_drewN ?_ _ | refine blk_drew ?_ | refine blk_alloc ?_ _)); exact BK1081.out⟩, ⟨by (with_reducible repeat (first | refine blk_drewN ?_ _ | refine blk_drew ?_ | refine blk_alloc ?_ _)); refine blk_far ?_ NB1082_1095.out _; (with_reducible repeat (first | refine blk_drewN ?_ _ | refine blk_drew ?_ | refine blk_alloc ?_ _)); refine blk_far ?_ NB1082_1095.out _; (with_reducible repeat (first | refine blk_drewN ?_ _ | refine blk_drew ?_ | refine blk_alloc ?_ _)); exact BK1082.out⟩, ⟨by (with_reducible repeat (first | refine blk_drewN ?_ _ | refine blk_drew ?_ | refine blk_alloc ?_ _)); refine blk_far ?_ NB1091_1095.out _; (with_reducible repeat (first | refine blk_drewN ?_ _ | refine blk_drew ?_ | refine blk_alloc ?_ _)); refine blk_far ?_ NB1091_1095.out _; (with_reducible repeat (first | refine blk_drewN ?_ _ | refine blk_drew ?_ | refine blk_alloc ?_ _)); exact BK1091.out⟩, ⟨by (with_reducible repeat (first | refine blk_drewN ?_ _ | refine blk_drew ?_ | refine blk_alloc ?_ _)); refine blk_put (cs := #[.int .i64 t1092, .int .i64 0]) ?_ 1 _ rfl; (with_reducible repeat (first | refine blk_drewN ?_ _ | refine blk_drew ?_ | refine blk_alloc ?_ _)); refine blk_put (cs := #[.int .i64 0, .int .i64 0]) ?_ 0 _ rfl; (with_reducible repeat (first | refine blk_drewN ?_ _ | refine blk_drew ?_ | refine blk_alloc ?_ _)); exact BK1095.out⟩, ⟨by repeat (first | (with_reducible first | exact HB.out | apply below_alloc | apply pw_below_drewN | apply below_drew1 | refine below_set ?_ GE1080.out | refine below_set ?_ GE1081.out | refine below_set ?_ GE1082.out | refine below_set ?_ GE1091.out | refine below_set ?_ GE1095.out) | exact HB.out)⟩⟩
          · rw [if_neg c53] at H
            have c53b0 : (t1090 == 0) = false := beq_eq_false_iff_ne.mpr c53
            have c53b1 : (t1090 != 0) = true := bne_iff_ne.mpr c53
            (first | rw [c53b0] | (simp only [i64_w, i32_w]; rw [c53b0]) | skip)
            have H' := Aside0.mk H
            clear H
            go_wp2
            go_meet
            case rel => exact ⟨_, ((t1090 != 2)), (by first | rfl | (simp; done) | (simp [*]; done)), H', ⟨by have := HJ3.out; first | omega | exact Nat.le_refl _⟩, ⟨by (with_reducible repeat (first | refine blk_drewN ?_ _ | refine blk_drew ?_ | refine blk_alloc ?_ _)); refine blk_far ?_ NB1080_1095.out _; (with_reducible repeat (first | refine blk_drewN ?_ _ | refine blk_drew ?_ | refine blk_alloc ?_ _)); refine blk_far ?_ NB1080_1095.out _; (with_reducible repeat (first | refine blk_drewN ?_ _ | refine blk_drew ?_ | refine blk_alloc ?_ _)); exact BK1080.out⟩, ⟨by (with_reducible repeat (first | refine blk_drewN ?_ _ | refine blk_drew ?_ | refine blk_alloc ?_ _)); refine blk_far ?_ NB1081_1095.out _; (with_reducible repeat (first | refine blk_drewN ?_ _ | refine blk_drew ?_ | refine blk_alloc ?_ _)); refine blk_far ?_ NB1081_1095.out _; (with_reducible repeat (first | refine blk_drewN ?_ _ | refine blk_drew ?_ | refine blk_alloc ?_ _)); exact BK1081.out⟩, ⟨by (with_reducible repeat (first | refine blk_drewN ?_ _ | refine blk_drew ?_ | refine blk_alloc ?_ _)); refine blk_far ?_ NB1082_1095.out _; (with_reducible repeat (first | refine blk_drewN ?_ _ | refine blk_drew ?_ | refine blk_alloc ?_ _)); refine blk_far ?_ NB1082_1095.out _; (with_reducible repeat (first | refine blk_drewN ?_ _ | refine blk_drew ?_ | refine blk_alloc ?_ _)); exact BK1082.out⟩, ⟨by (with_reducible repeat (first | refine blk_drewN ?_ _ | refine blk_drew ?_ | refine blk_alloc ?_ _)); refine blk_far ?_ NB1091_1095.out _; (with_reducible repeat (first | refine blk_drewN ?_ _ | refine blk_drew ?_ | refine blk_alloc ?_ _)); refine blk_far ?_ NB1091_1095.out _; (with_reducible repeat (first | refine blk_drewN ?_ _ | refine blk_drew ?_ | refine blk_alloc ?_ _)); exact BK1091.out⟩, ⟨by (with_reducible repeat (first | refine blk_drewN ?_ _ | refine blk_drew ?_ | refine blk_alloc ?_ _)); refine blk_put (cs := #[.int .i64 t1092, .int .i64 0]) ?_ 1 _ rfl; (with_reducible repeat (first | refine blk_drewN ?_ _ | refine blk_drew ?_ | refine blk_alloc ?_ _)); refine blk_put (cs := #[.int .i64 0, .int .i64 0]) ?_ 0 _ rfl; (with_reducible repeat (first | refine blk_drewN ?_ _ | refine blk_drew ?_ | refine blk_alloc ?_ _)); exact BK1095.out⟩, ⟨by repeat (first | (with_reducible first | exact HB.out | apply below_alloc | apply pw_below_drewN | apply below_drew1 | refine below_set ?_ GE1080.out | refine below_set ?_ GE1081.out | refine below_set ?_ GE1082.out | refine below_set ?_ GE1091.out | refine below_set ?_ GE1095.out) | exact HB.out)⟩⟩
        case rest =>
          clear HC29
          try clear c1
          try clear c2
          try clear p2
          try clear c3
          try clear c4
          try clear c5
          try clear c6
          try clear p6
          try clear c7
          try clear c8
          try clear c9
          try clear c10
          try clear c11
          try clear c12
          try clear c15
          try clear c18
          try clear c19
          try clear c22
          try clear c33
          try clear c34
          try clear c36
          try clear c40
          try clear c41
          try clear c42
          try clear c48
          try clear c49
          try clear c50
          try clear c51
          try clear c53
          try clear c53b0
          try clear c53b1
          try clear c54
          try clear c54b0
          try clear c55
          try clear c56
          try clear c57
          try clear c58
          try clear c60
          try clear c60b0
          try clear c61
          try clear c62
          try clear c63
          try clear c64
          try clear p64
          try clear c66
          try clear c66b0
          try clear c66b1
          try clear c67
          try clear c67b0
          try clear c67b1
          try clear c68
          try clear c69
          try clear c70
          try clear c71
          try clear c73
          try clear c74
          try clear c75
          try clear c77
          try clear c78
          try clear c80
          try clear c81
          try clear c82
          try clear c83
          try clear c85
          try clear c86
          try clear c87
          try clear c89
          try clear c90
          try clear c92
          try clear c93
          try clear c94
          try clear c95
          try clear c97
          try clear c98
          try clear c99
          try clear c101
          try clear c102
          try clear hcz100_0
          try clear hcz100_1
          try clear hcz103_0
          try clear hcz103_1
          try clear hcz13_0
          try clear hcz13_1
          try clear hcz16_0
          try clear hcz16_1
          try clear hcz20_0
          try clear hcz20_1
          try clear hcz35_0
          try clear hcz35_1
          try clear hcz37_0
          try clear hcz37_1
          try clear hcz43_0
          try clear hcz43_1
          try clear hcz44_0
          try clear hcz44_1
          try clear hcz45_0
          try clear hcz45_1
          try clear hcz52_0
          try clear hcz52_1
          try clear hcz59_0
          try clear hcz59_1
          try clear hcz65_0
          try clear hcz65_1
          try clear hcz72_0
          try clear hcz72_1
          try clear hcz76_0
          try clear hcz76_1
          try clear hcz79_0
          try clear hcz79_1
          try clear hcz84_0
          try clear hcz84_1
          try clear hcz88_0
          try clear hcz88_1
          try clear hcz91_0
          try clear hcz91_1
          try clear hcz96_0
          try clear hcz96_1
          try clear hfz100_0
          try clear hfz100_1
          try clear hfz103_0
          try clear hfz103_1
          try clear hfz13_0
          try clear hfz13_1
          try clear hfz16_0
          try clear hfz16_1
          try clear hfz20_0
          try clear hfz20_1
          try clear hfz35_0
          try clear hfz35_1
          try clear hfz37_0
          try clear hfz37_1
          try clear hfz43_0
          try clear hfz43_1
          try clear hfz44_0
          try clear hfz44_1
          try clear hfz45_0
          try clear hfz45_1
          try clear hfz52_0
          try clear hfz52_1
          try clear hfz59_0
          try clear hfz59_1
          try clear hfz65_0
          try clear hfz65_1
          try clear hfz72_0
          try clear hfz72_1
          try clear hfz76_0
          try clear hfz76_1
          try clear hfz79_0
          try clear hfz79_1
          try clear hfz84_0
          try clear hfz84_1
          try clear hfz88_0
          try clear hfz88_1
          try clear hfz91_0
          try clear hfz91_1
          try clear hfz96_0
          try clear hfz96_1
          try clear p2
          obtain ⟨kq, x91_28, rfl, HA, HJ28, BK1080, BK1081, BK1082, BK1091, BK1095, HB⟩ := hcut
          cases kq with
          | zero => exact absurd HA.out (by simp [swashplatelaw01_SpansEach.j1])
          | succ kj28 =>
            have H := HA.out
            clear HA
            simp only [swashplatelaw01_SpansEach.j1] at H
            by_cases c104 : x91_28 = true
            · subst c104
              have H1 : (some false) = some r := by rw [if_pos rfl] at H; exact H
              clear H
              have H := H1
              clear H1
              obtain rfl := Option.some.inj H
              go_wp2
              go_ret
              exact ⟨by first | rfl | (simp [errW_none, errW_some] <;> rfl) | (simp [*, errW_none, errW_some] <;> rfl), by repeat (first | (with_reducible first | exact HB.out | apply below_alloc | apply pw_below_drewN | apply below_drew1 | refine below_set ?_ GE1080.out | refine below_set ?_ GE1081.out | refine below_set ?_ GE1082.out | refine below_set ?_ GE1091.out | refine below_set ?_ GE1095.out) | exact HB.out)⟩
            · replace c104 := Bool.eq_false_iff.mpr c104
              subst c104
              have H1 : (if t1094 = 0 then (if (wrap64 (t1086 * t1087)) < t1092 then (swashplatelaw01_SpansEach.j2 kj28 t1086 true a0_0 a0_1 a2_0 a2_1 a2_2 a2_3) else (if (wrap64 (t1086 * t1087)) > t1093 then (swashplatelaw01_SpansEach.j2 kj28 t1086 true a0_0 a0_1 a2_0 a2_1 a2_2 a2_3) else ((swashplatelaw01_product.f t1092 a0_0 a0_1 a1_0 a1_1).bind fun t1096 => (if t1096 = true then ((swashplatelaw01_product.f t1093 a0_0 a0_1 a1_0 a1_1).bind fun t1097 => (if t1097 = true then (swashplatelaw01_SpansEach.j2 kj28 t1086 false a0_0 a0_1 a2_0 a2_1 a2_2 a2_3) else (swashplatelaw01_SpansEach.j2 kj28 t1086 true a0_0 a0_1 a2_0 a2_1 a2_2 a2_3))) else (swashplatelaw01_SpansEach.j2 kj28 t1086 true a0_0 a0_1 a2_0 a2_1 a2_2 a2_3))))) else (swashplatelaw01_SpansEach.j2 kj28 t1086 (t1094 != 2) a0_0 a0_1 a2_0 a2_1 a2_2 a2_3)) = some r := by rw [if_neg (show ¬ (false = true) by decide)] at H; exact H
              clear H
              have H := H1
              clear H1
              have HC105 := Aside0.mk H
              clear H
              go_upto_region 8 with (fail)
              go_cut [133] (fun v133 wc => ∃ (kq : Nat) (x133_104 : Bool), v133 = .bool x133_104 ∧ Aside0 (swashplatelaw01_SpansEach.j2 kq t1086 x133_104 a0_0 a0_1 a2_0 a2_1 a2_2 a2_3 = some r) ∧ Aside0 (kq ≤ kj28) ∧ Aside0 (wc.heap[gb1080]? = some (.cells #[.int .i64 a0_0, .int .i64 a0_1] 27 (0, 0))) ∧ Aside0 (wc.heap[gb1081]? = some (.cells #[.int .i64 a1_0, .int .i64 a1_1] 27 (0, 0))) ∧ Aside0 (wc.heap[gb1082]? = some (.cells #[.int .i64 a2_0, .int .i64 a2_1, .int .i64 a2_2, .int .i64 a2_3] 92 (0, 0))) ∧ Aside0 (wc.heap[gb1091]? = some (.cells #[.int .i64 t1088, .int .i64 t1089] 27 (0, 0))) ∧ Aside0 (wc.heap[gb1095]? = some (.cells #[.int .i64 t1092, .int .i64 t1093] 27 (0, 0))) ∧ Aside0 (Below w.heap.size w wc))
              case first =>
                have H := HC105.out
                clear HC105
                by_cases c106 : t1094 = 0
                · rw [if_pos c106] at H
                  have c106b0 : (t1094 == 0) = true := beq_iff_eq.mpr c106
                  have c106b1 : (t1094 != 0) = false := bne_eq_false_iff_eq.mpr c106
                  clear c106
                  (first | rw [c106b0] | (simp only [i64_w, i32_w]; rw [c106b0]) | skip)
                  by_cases c107 : (wrap64 (t1086 * t1087)) < t1092
                  · rw [if_pos c107] at H
                    have c107b0 : decide ((wrap64 (t1086 * t1087)) < t1092) = true := decide_eq_true c107
                    clear c107
                    have H' := Aside0.mk H
                    clear H
                    have hnb108 := NB1095_1080.out
                    have hnc108 := NB1080_1095.out
                    have hnb109 := NB1095_1081.out
                    have hnc109 := NB1081_1095.out
                    have hnb110 := NB1095_1082.out
                    have hnc110 := NB1082_1095.out
                    have hnb111 := NB1095_1091.out
                    have hnc111 := NB1091_1095.out
                    have hcz112_0 : wc.cell? ⟨gb1095, 0, none⟩ = some (.int .i64 t1092) := (blk_cell BK1095.out 0).trans rfl
                    have hcz112_1 : wc.cell? ⟨gb1095, 1, none⟩ = some (.int .i64 t1093) := (blk_cell BK1095.out 1).trans rfl
                    have hfz112_0 := blk_frozen BK1095.out 0
                    have hfz112_1 := blk_frozen BK1095.out 1
                    go_wp2
                    go_meet
                    case rel => exact ⟨_, (true), (by first | rfl | (simp; done) | (simp [*]; done)), H', ⟨by have := HJ3.out; have := HJ28.out; first | omega | exact Nat.le_refl _⟩, ⟨by (with_reducible repeat (first | refine blk_drewN ?_ _ | refine blk_drew ?_ | refine blk_alloc ?_ _)); exact BK1080.out⟩, ⟨by (with_reducible repeat (first | refine blk_drewN ?_ _ | refine blk_drew ?_ | refine blk_alloc ?_ _)); exact BK1081.out⟩, ⟨by (with_reducible repeat (first | refine blk_drewN ?_ _ | refine blk_drew ?_ | refine blk_alloc ?_ _)); exact BK1082.out⟩, ⟨by (with_reducible repeat (first | refine blk_drewN ?_ _ | refine blk_drew ?_ | refine blk_alloc ?_ _)); exact BK1091.out⟩, ⟨by (with_reducible repeat (first | refine blk_drewN ?_ _ | refine blk_drew ?_ | refine blk_alloc ?_ _)); exact BK1095.out⟩, ⟨by repeat (first | (with_reducible first | exact HB.out | apply below_alloc | apply pw_below_drewN | apply below_drew1 | refine below_set ?_ GE1080.out | refine below_set ?_ GE1081.out | refine below_set ?_ GE1082.out | refine below_set ?_ GE1091.out | refine below_set ?_ GE1095.out) | exact HB.out)⟩⟩
                  · rw [if_neg c107] at H
                    have c107b0 : decide ((wrap64 (t1086 * t1087)) < t1092) = false := decide_eq_false c107
                    clear c107
                    by_cases c113 : (wrap64 (t1086 * t1087)) > t1093
                    · rw [if_pos c113] at H
                      have c113b0 : decide (t1093 < (wrap64 (t1086 * t1087))) = true := decide_eq_true c113
                      clear c113
                      have H' := Aside0.mk H
                      clear H
                      have hnb114 := NB1095_1080.out
                      have hnc114 := NB1080_1095.out
                      have hnb115 := NB1095_1081.out
                      have hnc115 := NB1081_1095.out
                      have hnb116 := NB1095_1082.out
                      have hnc116 := NB1082_1095.out
                      have hnb117 := NB1095_1091.out
                      have hnc117 := NB1091_1095.out
                      have hcz118_0 : wc.cell? ⟨gb1095, 0, none⟩ = some (.int .i64 t1092) := (blk_cell BK1095.out 0).trans rfl
                      have hcz118_1 : wc.cell? ⟨gb1095, 1, none⟩ = some (.int .i64 t1093) := (blk_cell BK1095.out 1).trans rfl
                      have hfz118_0 := blk_frozen BK1095.out 0
                      have hfz118_1 := blk_frozen BK1095.out 1
                      go_wp2
                      go_meet
                      case rel => exact ⟨_, (true), (by first | rfl | (simp; done) | (simp [*]; done)), H', ⟨by have := HJ3.out; have := HJ28.out; first | omega | exact Nat.le_refl _⟩, ⟨by (with_reducible repeat (first | refine blk_drewN ?_ _ | refine blk_drew ?_ | refine blk_alloc ?_ _)); exact BK1080.out⟩, ⟨by (with_reducible repeat (first | refine blk_drewN ?_ _ | refine blk_drew ?_ | refine blk_alloc ?_ _)); exact BK1081.out⟩, ⟨by (with_reducible repeat (first | refine blk_drewN ?_ _ | refine blk_drew ?_ | refine blk_alloc ?_ _)); exact BK1082.out⟩, ⟨by (with_reducible repeat (first | refine blk_drewN ?_ _ | refine blk_drew ?_ | refine blk_alloc ?_ _)); exact BK1091.out⟩, ⟨by (with_reducible repeat (first | refine blk_drewN ?_ _ | refine blk_drew ?_ | refine blk_alloc ?_ _)); exact BK1095.out⟩, ⟨by repeat (first | (with_reducible first | exact HB.out | apply below_alloc | apply pw_below_drewN | apply below_drew1 | refine below_set ?_ GE1080.out | refine below_set ?_ GE1081.out | refine below_set ?_ GE1082.out | refine below_set ?_ GE1091.out | refine below_set ?_ GE1095.out) | exact HB.out)⟩⟩
                    · rw [if_neg c113] at H
                      have c113b0 : decide (t1093 < (wrap64 (t1086 * t1087))) = false := decide_eq_false c113
                      clear c113
                      replace H := Option.bind_eq_some_iff.mp H
                      obtain ⟨t1096, A1190, H⟩ := H
                      replace H : (if t1096 = true then ((swashplatelaw01_product.f t1093 a0_0 a0_1 a1_0 a1_1).bind fun t1097 => (if t1097 = true then (swashplatelaw01_SpansEach.j2 kj28 t1086 false a0_0 a0_1 a2_0 a2_1 a2_2 a2_3) else (swashplatelaw01_SpansEach.j2 kj28 t1086 true a0_0 a0_1 a2_0 a2_1 a2_2 a2_3))) else (swashplatelaw01_SpansEach.j2 kj28 t1086 true a0_0 a0_1 a2_0 a2_1 a2_2 a2_3)) = some r := H
                      have A119 := Aside0.mk A1190
                      clear A1190
                      by_cases c120 : t1096 = true
                      · subst c120
                        have H1 : ((swashplatelaw01_product.f t1093 a0_0 a0_1 a1_0 a1_1).bind fun t1097 => (if t1097 = true then (swashplatelaw01_SpansEach.j2 kj28 t1086 false a0_0 a0_1 a2_0 a2_1 a2_2 a2_3) else (swashplatelaw01_SpansEach.j2 kj28 t1086 true a0_0 a0_1 a2_0 a2_1 a2_2 a2_3))) = some r := by rw [if_pos rfl] at H; exact H
                        clear H
                        have H := H1
                        clear H1
                        replace H := Option.bind_eq_some_iff.mp H
                        obtain ⟨t1097, A1210, H⟩ := H
                        replace H : (if t1097 = true then (swashplatelaw01_SpansEach.j2 kj28 t1086 false a0_0 a0_1 a2_0 a2_1 a2_2 a2_3) else (swashplatelaw01_SpansEach.j2 kj28 t1086 true a0_0 a0_1 a2_0 a2_1 a2_2 a2_3)) = some r := H
                        have A121 := Aside0.mk A1210
                        clear A1210
                        by_cases c122 : t1097 = true
                        · subst c122
                          have H1 : (swashplatelaw01_SpansEach.j2 kj28 t1086 false a0_0 a0_1 a2_0 a2_1 a2_2 a2_3) = some r := by rw [if_pos rfl] at H; exact H
                          clear H
                          have H := H1
                          clear H1
                          have H' := Aside0.mk H
                          clear H
                          have hnb123 := NB1095_1080.out
                          have hnc123 := NB1080_1095.out
                          have hnb124 := NB1095_1081.out
                          have hnc124 := NB1081_1095.out
                          have hnb125 := NB1095_1082.out
                          have hnc125 := NB1082_1095.out
                          have hnb126 := NB1095_1091.out
                          have hnc126 := NB1091_1095.out
                          have hcz127_0 : wc.cell? ⟨gb1095, 0, none⟩ = some (.int .i64 t1092) := (blk_cell BK1095.out 0).trans rfl
                          have hcz127_1 : wc.cell? ⟨gb1095, 1, none⟩ = some (.int .i64 t1093) := (blk_cell BK1095.out 1).trans rfl
                          have hfz127_0 := blk_frozen BK1095.out 0
                          have hfz127_1 := blk_frozen BK1095.out 1
                          have hnb128 := NB1080_1081.out
                          have hnc128 := NB1081_1080.out
                          have hnb129 := NB1080_1082.out
                          have hnc129 := NB1082_1080.out
                          have hnb130 := NB1080_1091.out
                          have hnc130 := NB1091_1080.out
                          have hcz131_0 : wc.cell? ⟨gb1080, 0, none⟩ = some (.int .i64 a0_0) := (blk_cell BK1080.out 0).trans rfl
                          have hcz131_1 : wc.cell? ⟨gb1080, 1, none⟩ = some (.int .i64 a0_1) := (blk_cell BK1080.out 1).trans rfl
                          have hfz131_0 := blk_frozen BK1080.out 0
                          have hfz131_1 := blk_frozen BK1080.out 1
                          have hnb132 := NB1081_1082.out
                          have hnc132 := NB1082_1081.out
                          have hnb133 := NB1081_1091.out
                          have hnc133 := NB1091_1081.out
                          have hcz134_0 : wc.cell? ⟨gb1081, 0, none⟩ = some (.int .i64 a1_0) := (blk_cell BK1081.out 0).trans rfl
                          have hcz134_1 : wc.cell? ⟨gb1081, 1, none⟩ = some (.int .i64 a1_1) := (blk_cell BK1081.out 1).trans rfl
                          have hfz134_0 := blk_frozen BK1081.out 0
                          have hfz134_1 := blk_frozen BK1081.out 1
                          go_wp2_with (first | (go_at_call 59; (with_reducible refine (swashplatelaw01_product.calls t1092 a0_0 a0_1 a1_0 a1_1 true _ A119.out).mono ?_); rintro e w135 ⟨rfl, hb⟩; have n0_ := Aside0.mk (blk_below (g := gb1080) (o := .cells #[.int .i64 a0_0, .int .i64 a0_1] 27 (0, 0)) (by (with_reducible repeat (first | refine blk_drewN ?_ _ | refine blk_drew ?_ | refine blk_alloc ?_ _)); exact BK1080.out) hb); have n1_ := Aside0.mk (blk_below (g := gb1081) (o := .cells #[.int .i64 a1_0, .int .i64 a1_1] 27 (0, 0)) (by (with_reducible repeat (first | refine blk_drewN ?_ _ | refine blk_drew ?_ | refine blk_alloc ?_ _)); exact BK1081.out) hb); have n2_ := Aside0.mk (blk_below (g := gb1082) (o := .cells #[.int .i64 a2_0, .int .i64 a2_1, .int .i64 a2_2, .int .i64 a2_3] 92 (0, 0)) (by (with_reducible repeat (first | refine blk_drewN ?_ _ | refine blk_drew ?_ | refine blk_alloc ?_ _)); exact BK1082.out) hb); have n3_ := Aside0.mk (blk_below (g := gb1091) (o := .cells #[.int .i64 t1088, .int .i64 t1089] 27 (0, 0)) (by (with_reducible repeat (first | refine blk_drewN ?_ _ | refine blk_drew ?_ | refine blk_alloc ?_ _)); exact BK1091.out) hb); have n4_ := Aside0.mk (blk_below (g := gb1095) (o := .cells #[.int .i64 t1092, .int .i64 t1093] 27 (0, 0)) (by (with_reducible repeat (first | refine blk_drewN ?_ _ | refine blk_drew ?_ | refine blk_alloc ?_ _)); exact BK1095.out) hb); have n5_ := Aside0.mk (below_step (by repeat (first | (with_reducible first | exact HB.out | apply below_alloc | apply pw_below_drewN | apply below_drew1 | refine below_set ?_ GE1080.out | refine below_set ?_ GE1081.out | refine below_set ?_ GE1082.out | refine below_set ?_ GE1091.out | refine below_set ?_ GE1095.out) | exact HB.out)) hb); clear BK1080; clear BK1081; clear BK1082; clear BK1091; clear BK1095; clear HB; have BK1080 := n0_; have BK1081 := n1_; have BK1082 := n2_; have BK1091 := n3_; have BK1095 := n4_; have HB := n5_; clear n0_ n1_ n2_ n3_ n4_ n5_; (try clear hb); (try clear hb2); (try clear hk); (try clear hi); have hcz136_0 : w135.cell? ⟨gb1095, 0, none⟩ = some (.int .i64 t1092) := (blk_cell BK1095.out 0).trans rfl; have hcz136_1 : w135.cell? ⟨gb1095, 1, none⟩ = some (.int .i64 t1093) := (blk_cell BK1095.out 1).trans rfl; have hfz136_0 := blk_frozen BK1095.out 0; have hfz136_1 := blk_frozen BK1095.out 1; have hcz137_0 : w135.cell? ⟨gb1080, 0, none⟩ = some (.int .i64 a0_0) := (blk_cell BK1080.out 0).trans rfl; have hcz137_1 : w135.cell? ⟨gb1080, 1, none⟩ = some (.int .i64 a0_1) := (blk_cell BK1080.out 1).trans rfl; have hfz137_0 := blk_frozen BK1080.out 0; have hfz137_1 := blk_frozen BK1080.out 1; have hcz138_0 : w135.cell? ⟨gb1081, 0, none⟩ = some (.int .i64 a1_0) := (blk_cell BK1081.out 0).trans rfl; have hcz138_1 : w135.cell? ⟨gb1081, 1, none⟩ = some (.int .i64 a1_1) := (blk_cell BK1081.out 1).trans rfl; have hfz138_0 := blk_frozen BK1081.out 0; have hfz138_1 := blk_frozen BK1081.out 1) | (go_at_call 59; (with_reducible refine (swashplatelaw01_product.calls t1093 a0_0 a0_1 a1_0 a1_1 true _ A121.out).mono ?_); rintro e w139 ⟨rfl, hb⟩; have n0_ := Aside0.mk (blk_below (g := gb1080) (o := .cells #[.int .i64 a0_0, .int .i64 a0_1] 27 (0, 0)) (by (with_reducible repeat (first | refine blk_drewN ?_ _ | refine blk_drew ?_ | refine blk_alloc ?_ _)); exact BK1080.out) hb); have n1_ := Aside0.mk (blk_below (g := gb1081) (o := .cells #[.int .i64 a1_0, .int .i64 a1_1] 27 (0, 0)) (by (with_reducible repeat (first | refine blk_drewN ?_ _ | refine blk_drew ?_ | refine blk_alloc ?_ _)); exact BK1081.out) hb); have n2_ := Aside0.mk (blk_below (g := gb1082) (o := .cells #[.int .i64 a2_0, .int .i64 a2_1, .int .i64 a2_2, .int .i64 a2_3] 92 (0, 0)) (by (with_reducible repeat (first | refine blk_drewN ?_ _ | refine blk_drew ?_ | refine blk_alloc ?_ _)); exact BK1082.out) hb); have n3_ := Aside0.mk (blk_below (g := gb1091) (o := .cells #[.int .i64 t1088, .int .i64 t1089] 27 (0, 0)) (by (with_reducible repeat (first | refine blk_drewN ?_ _ | refine blk_drew ?_ | refine blk_alloc ?_ _)); exact BK1091.out) hb); have n4_ := Aside0.mk (blk_below (g := gb1095) (o := .cells #[.int .i64 t1092, .int .i64 t1093] 27 (0, 0)) (by (with_reducible repeat (first | refine blk_drewN ?_ _ | refine blk_drew ?_ | refine blk_alloc ?_ _)); exact BK1095.out) hb); have n5_ := Aside0.mk (below_step (by repeat (first | (with_reducible first | exact HB.out | apply below_alloc | apply pw_below_drewN | apply below_drew1 | refine below_set ?_ GE1080.out | refine below_set ?_ GE1081.out | refine below_set ?_ GE1082.out | refine below_set ?_ GE1091.out | refine below_set ?_ GE1095.out) | exact HB.out)) hb); clear BK1080; clear BK1081; clear BK1082; clear BK1091; clear BK1095; clear HB; have BK1080 := n0_; have BK1081 := n1_; have BK1082 := n2_; have BK1091 := n3_; have BK1095 := n4_; have HB := n5_; clear n0_ n1_ n2_ n3_ n4_ n5_; (try clear hb); (try clear hb2); (try clear hk); (try clear hi)))
                          go_meet
                          case rel => exact ⟨_, (false), (by first | rfl | (simp; done) | (simp [*]; done)), H', ⟨by have := HJ3.out; have := HJ28.out; first | omega | exact Nat.le_refl _⟩, ⟨by (with_reducible repeat (first | refine blk_drewN ?_ _ | refine blk_drew ?_ | refine blk_alloc ?_ _)); exact BK1080.out⟩, ⟨by (with_reducible repeat (first | refine blk_drewN ?_ _ | refine blk_drew ?_ | refine blk_alloc ?_ _)); exact BK1081.out⟩, ⟨by (with_reducible repeat (first | refine blk_drewN ?_ _ | refine blk_drew ?_ | refine blk_alloc ?_ _)); exact BK1082.out⟩, ⟨by (with_reducible repeat (first | refine blk_drewN ?_ _ | refine blk_drew ?_ | refine blk_alloc ?_ _)); exact BK1091.out⟩, ⟨by (with_reducible repeat (first | refine blk_drewN ?_ _ | refine blk_drew ?_ | refine blk_alloc ?_ _)); exact BK1095.out⟩, ⟨by repeat (first | (with_reducible first | exact HB.out | apply below_alloc | apply pw_below_drewN | apply below_drew1 | refine below_set ?_ GE1080.out | refine below_set ?_ GE1081.out | refine below_set ?_ GE1082.out | refine below_set ?_ GE1091.out | refine below_set ?_ GE1095.out) | exact HB.out)⟩⟩
                        · replace c122 := Bool.eq_false_iff.mpr c122
                          subst c122
                          have H1 : (swashplatelaw01_SpansEach.j2 kj28 t1086 true a0_0 a0_1 a2_0 a2_1 a2_2 a2_3) = some r := by rw [if_neg (show ¬ (false = true) by decide)] at H; exact H
                          clear H
                          have H := H1
                          clear H1
                          have H' := Aside0.mk H
                          clear H
                          have hnb140 := NB1095_1080.out
                          have hnc140 := NB1080_1095.out
                          have hnb141 := NB1095_1081.out
                          have hnc141 := NB1081_1095.out
                          have hnb142 := NB1095_1082.out
                          have hnc142 := NB1082_1095.out
                          have hnb143 := NB1095_1091.out
                          have hnc143 := NB1091_1095.out
                          have hcz144_0 : wc.cell? ⟨gb1095, 0, none⟩ = some (.int .i64 t1092) := (blk_cell BK1095.out 0).trans rfl
                          have hcz144_1 : wc.cell? ⟨gb1095, 1, none⟩ = some (.int .i64 t1093) := (blk_cell BK1095.out 1).trans rfl
                          have hfz144_0 := blk_frozen BK1095.out 0
                          have hfz144_1 := blk_frozen BK1095.out 1
                          have hnb145 := NB1080_1081.out
                          have hnc145 := NB1081_1080.out
                          have hnb146 := NB1080_1082.out
                          have hnc146 := NB1082_1080.out
                          have hnb147 := NB1080_1091.out
                          have hnc147 := NB1091_1080.out
                          have hcz148_0 : wc.cell? ⟨gb1080, 0, none⟩ = some (.int .i64 a0_0) := (blk_cell BK1080.out 0).trans rfl
                          have hcz148_1 : wc.cell? ⟨gb1080, 1, none⟩ = some (.int .i64 a0_1) := (blk_cell BK1080.out 1).trans rfl
                          have hfz148_0 := blk_frozen BK1080.out 0
                          have hfz148_1 := blk_frozen BK1080.out 1
                          have hnb149 := NB1081_1082.out
                          have hnc149 := NB1082_1081.out
                          have hnb150 := NB1081_1091.out
                          have hnc150 := NB1091_1081.out
                          have hcz151_0 : wc.cell? ⟨gb1081, 0, none⟩ = some (.int .i64 a1_0) := (blk_cell BK1081.out 0).trans rfl
                          have hcz151_1 : wc.cell? ⟨gb1081, 1, none⟩ = some (.int .i64 a1_1) := (blk_cell BK1081.out 1).trans rfl
                          have hfz151_0 := blk_frozen BK1081.out 0
                          have hfz151_1 := blk_frozen BK1081.out 1
                          go_wp2_with (first | (go_at_call 59; (with_reducible refine (swashplatelaw01_product.calls t1092 a0_0 a0_1 a1_0 a1_1 true _ A119.out).mono ?_); rintro e w152 ⟨rfl, hb⟩; have n0_ := Aside0.mk (blk_below (g := gb1080) (o := .cells #[.int .i64 a0_0, .int .i64 a0_1] 27 (0, 0)) (by (with_reducible repeat (first | refine blk_drewN ?_ _ | refine blk_drew ?_ | refine blk_alloc ?_ _)); exact BK1080.out) hb); have n1_ := Aside0.mk (blk_below (g := gb1081) (o := .cells #[.int .i64 a1_0, .int .i64 a1_1] 27 (0, 0)) (by (with_reducible repeat (first | refine blk_drewN ?_ _ | refine blk_drew ?_ | refine blk_alloc ?_ _)); exact BK1081.out) hb); have n2_ := Aside0.mk (blk_below (g := gb1082) (o := .cells #[.int .i64 a2_0, .int .i64 a2_1, .int .i64 a2_2, .int .i64 a2_3] 92 (0, 0)) (by (with_reducible repeat (first | refine blk_drewN ?_ _ | refine blk_drew ?_ | refine blk_alloc ?_ _)); exact BK1082.out) hb); have n3_ := Aside0.mk (blk_below (g := gb1091) (o := .cells #[.int .i64 t1088, .int .i64 t1089] 27 (0, 0)) (by (with_reducible repeat (first | refine blk_drewN ?_ _ | refine blk_drew ?_ | refine blk_alloc ?_ _)); exact BK1091.out) hb); have n4_ := Aside0.mk (blk_below (g := gb1095) (o := .cells #[.int .i64 t1092, .int .i64 t1093] 27 (0, 0)) (by (with_reducible repeat (first | refine blk_drewN ?_ _ | refine blk_drew ?_ | refine blk_alloc ?_ _)); exact BK1095.out) hb); have n5_ := Aside0.mk (below_step (by repeat (first | (with_reducible first | exact HB.out | apply below_alloc | apply pw_below_drewN | apply below_drew1 | refine below_set ?_ GE1080.out | refine below_set ?_ GE1081.out | refine below_set ?_ GE1082.out | refine below_set ?_ GE1091.out | refine below_set ?_ GE1095.out) | exact HB.out)) hb); clear BK1080; clear BK1081; clear BK1082; clear BK1091; clear BK1095; clear HB; have BK1080 := n0_; have BK1081 := n1_; have BK1082 := n2_; have BK1091 := n3_; have BK1095 := n4_; have HB := n5_; clear n0_ n1_ n2_ n3_ n4_ n5_; (try clear hb); (try clear hb2); (try clear hk); (try clear hi); have hcz153_0 : w152.cell? ⟨gb1095, 0, none⟩ = some (.int .i64 t1092) := (blk_cell BK1095.out 0).trans rfl; have hcz153_1 : w152.cell? ⟨gb1095, 1, none⟩ = some (.int .i64 t1093) := (blk_cell BK1095.out 1).trans rfl; have hfz153_0 := blk_frozen BK1095.out 0; have hfz153_1 := blk_frozen BK1095.out 1; have hcz154_0 : w152.cell? ⟨gb1080, 0, none⟩ = some (.int .i64 a0_0) := (blk_cell BK1080.out 0).trans rfl; have hcz154_1 : w152.cell? ⟨gb1080, 1, none⟩ = some (.int .i64 a0_1) := (blk_cell BK1080.out 1).trans rfl; have hfz154_0 := blk_frozen BK1080.out 0; have hfz154_1 := blk_frozen BK1080.out 1; have hcz155_0 : w152.cell? ⟨gb1081, 0, none⟩ = some (.int .i64 a1_0) := (blk_cell BK1081.out 0).trans rfl; have hcz155_1 : w152.cell? ⟨gb1081, 1, none⟩ = some (.int .i64 a1_1) := (blk_cell BK1081.out 1).trans rfl; have hfz155_0 := blk_frozen BK1081.out 0; have hfz155_1 := blk_frozen BK1081.out 1) | (go_at_call 59; (with_reducible refine (swashplatelaw01_product.calls t1093 a0_0 a0_1 a1_0 a1_1 false _ A121.out).mono ?_); rintro e w156 ⟨rfl, hb⟩; have n0_ := Aside0.mk (blk_below (g := gb1080) (o := .cells #[.int .i64 a0_0, .int .i64 a0_1] 27 (0, 0)) (by (with_reducible repeat (first | refine blk_drewN ?_ _ | refine blk_drew ?_ | refine blk_alloc ?_ _)); exact BK1080.out) hb); have n1_ := Aside0.mk (blk_below (g := gb1081) (o := .cells #[.int .i64 a1_0, .int .i64 a1_1] 27 (0, 0)) (by (with_reducible repeat (first | refine blk_drewN ?_ _ | refine blk_drew ?_ | refine blk_alloc ?_ _)); exact BK1081.out) hb); have n2_ := Aside0.mk (blk_below (g := gb1082) (o := .cells #[.int .i64 a2_0, .int .i64 a2_1, .int .i64 a2_2, .int .i64 a2_3] 92 (0, 0)) (by (with_reducible repeat (first | refine blk_drewN ?_ _ | refine blk_drew ?_ | refine blk_alloc ?_ _)); exact BK1082.out) hb); have n3_ := Aside0.mk (blk_below (g := gb1091) (o := .cells #[.int .i64 t1088, .int .i64 t1089] 27 (0, 0)) (by (with_reducible repeat (first | refine blk_drewN ?_ _ | refine blk_drew ?_ | refine blk_alloc ?_ _)); exact BK1091.out) hb); have n4_ := Aside0.mk (blk_below (g := gb1095) (o := .cells #[.int .i64 t1092, .int .i64 t1093] 27 (0, 0)) (by (with_reducible repeat (first | refine blk_drewN ?_ _ | refine blk_drew ?_ | refine blk_alloc ?_ _)); exact BK1095.out) hb); have n5_ := Aside0.mk (below_step (by repeat (first | (with_reducible first | exact HB.out | apply below_alloc | apply pw_below_drewN | apply below_drew1 | refine below_set ?_ GE1080.out | refine below_set ?_ GE1081.out | refine below_set ?_ GE1082.out | refine below_set ?_ GE1091.out | refine below_set ?_ GE1095.out) | exact HB.out)) hb); clear BK1080; clear BK1081; clear BK1082; clear BK1091; clear BK1095; clear HB; have BK1080 := n0_; have BK1081 := n1_; have BK1082 := n2_; have BK1091 := n3_; have BK1095 := n4_; have HB := n5_; clear n0_ n1_ n2_ n3_ n4_ n5_; (try clear hb); (try clear hb2); (try clear hk); (try clear hi)))
                          go_meet
                          case rel => exact ⟨_, (true), (by first | rfl | (simp; done) | (simp [*]; done)), H', ⟨by have := HJ3.out; have := HJ28.out; first | omega | exact Nat.le_refl _⟩, ⟨by (with_reducible repeat (first | refine blk_drewN ?_ _ | refine blk_drew ?_ | refine blk_alloc ?_ _)); exact BK1080.out⟩, ⟨by (with_reducible repeat (first | refine blk_drewN ?_ _ | refine blk_drew ?_ | refine blk_alloc ?_ _)); exact BK1081.out⟩, ⟨by (with_reducible repeat (first | refine blk_drewN ?_ _ | refine blk_drew ?_ | refine blk_alloc ?_ _)); exact BK1082.out⟩, ⟨by (with_reducible repeat (first | refine blk_drewN ?_ _ | refine blk_drew ?_ | refine blk_alloc ?_ _)); exact BK1091.out⟩, ⟨by (with_reducible repeat (first | refine blk_drewN ?_ _ | refine blk_drew ?_ | refine blk_alloc ?_ _)); exact BK1095.out⟩, ⟨by repeat (first | (with_reducible first | exact HB.out | apply below_alloc | apply pw_below_drewN | apply below_drew1 | refine below_set ?_ GE1080.out | refine below_set ?_ GE1081.out | refine below_set ?_ GE1082.out | refine below_set ?_ GE1091.out | refine below_set ?_ GE1095.out) | exact HB.out)⟩⟩
                      · replace c120 := Bool.eq_false_iff.mpr c120
                        subst c120
                        have H1 : (swashplatelaw01_SpansEach.j2 kj28 t1086 true a0_0 a0_1 a2_0 a2_1 a2_2 a2_3) = some r := by rw [if_neg (show ¬ (false = true) by decide)] at H; exact H
                        clear H
                        have H := H1
                        clear H1
                        have H' := Aside0.mk H
                        clear H
                        have hnb157 := NB1095_1080.out
                        have hnc157 := NB1080_1095.out
                        have hnb158 := NB1095_1081.out
                        have hnc158 := NB1081_1095.out
                        have hnb159 := NB1095_1082.out
                        have hnc159 := NB1082_1095.out
                        have hnb160 := NB1095_1091.out
                        have hnc160 := NB1091_1095.out
                        have hcz161_0 : wc.cell? ⟨gb1095, 0, none⟩ = some (.int .i64 t1092) := (blk_cell BK1095.out 0).trans rfl
                        have hcz161_1 : wc.cell? ⟨gb1095, 1, none⟩ = some (.int .i64 t1093) := (blk_cell BK1095.out 1).trans rfl
                        have hfz161_0 := blk_frozen BK1095.out 0
                        have hfz161_1 := blk_frozen BK1095.out 1
                        have hnb162 := NB1080_1081.out
                        have hnc162 := NB1081_1080.out
                        have hnb163 := NB1080_1082.out
                        have hnc163 := NB1082_1080.out
                        have hnb164 := NB1080_1091.out
                        have hnc164 := NB1091_1080.out
                        have hcz165_0 : wc.cell? ⟨gb1080, 0, none⟩ = some (.int .i64 a0_0) := (blk_cell BK1080.out 0).trans rfl
                        have hcz165_1 : wc.cell? ⟨gb1080, 1, none⟩ = some (.int .i64 a0_1) := (blk_cell BK1080.out 1).trans rfl
                        have hfz165_0 := blk_frozen BK1080.out 0
                        have hfz165_1 := blk_frozen BK1080.out 1
                        have hnb166 := NB1081_1082.out
                        have hnc166 := NB1082_1081.out
                        have hnb167 := NB1081_1091.out
                        have hnc167 := NB1091_1081.out
                        have hcz168_0 : wc.cell? ⟨gb1081, 0, none⟩ = some (.int .i64 a1_0) := (blk_cell BK1081.out 0).trans rfl
                        have hcz168_1 : wc.cell? ⟨gb1081, 1, none⟩ = some (.int .i64 a1_1) := (blk_cell BK1081.out 1).trans rfl
                        have hfz168_0 := blk_frozen BK1081.out 0
                        have hfz168_1 := blk_frozen BK1081.out 1
                        go_wp2_with (first | (go_at_call 59; (with_reducible refine (swashplatelaw01_product.calls t1092 a0_0 a0_1 a1_0 a1_1 false _ A119.out).mono ?_); rintro e w169 ⟨rfl, hb⟩; have n0_ := Aside0.mk (blk_below (g := gb1080) (o := .cells #[.int .i64 a0_0, .int .i64 a0_1] 27 (0, 0)) (by (with_reducible repeat (first | refine blk_drewN ?_ _ | refine blk_drew ?_ | refine blk_alloc ?_ _)); exact BK1080.out) hb); have n1_ := Aside0.mk (blk_below (g := gb1081) (o := .cells #[.int .i64 a1_0, .int .i64 a1_1] 27 (0, 0)) (by (with_reducible repeat (first | refine blk_drewN ?_ _ | refine blk_drew ?_ | refine blk_alloc ?_ _)); exact BK1081.out) hb); have n2_ := Aside0.mk (blk_below (g := gb1082) (o := .cells #[.int .i64 a2_0, .int .i64 a2_1, .int .i64 a2_2, .int .i64 a2_3] 92 (0, 0)) (by (with_reducible repeat (first | refine blk_drewN ?_ _ | refine blk_drew ?_ | refine blk_alloc ?_ _)); exact BK1082.out) hb); have n3_ := Aside0.mk (blk_below (g := gb1091) (o := .cells #[.int .i64 t1088, .int .i64 t1089] 27 (0, 0)) (by (with_reducible repeat (first | refine blk_drewN ?_ _ | refine blk_drew ?_ | refine blk_alloc ?_ _)); exact BK1091.out) hb); have n4_ := Aside0.mk (blk_below (g := gb1095) (o := .cells #[.int .i64 t1092, .int .i64 t1093] 27 (0, 0)) (by (with_reducible repeat (first | refine blk_drewN ?_ _ | refine blk_drew ?_ | refine blk_alloc ?_ _)); exact BK1095.out) hb); have n5_ := Aside0.mk (below_step (by repeat (first | (with_reducible first | exact HB.out | apply below_alloc | apply pw_below_drewN | apply below_drew1 | refine below_set ?_ GE1080.out | refine below_set ?_ GE1081.out | refine below_set ?_ GE1082.out | refine below_set ?_ GE1091.out | refine below_set ?_ GE1095.out) | exact HB.out)) hb); clear BK1080; clear BK1081; clear BK1082; clear BK1091; clear BK1095; clear HB; have BK1080 := n0_; have BK1081 := n1_; have BK1082 := n2_; have BK1091 := n3_; have BK1095 := n4_; have HB := n5_; clear n0_ n1_ n2_ n3_ n4_ n5_; (try clear hb); (try clear hb2); (try clear hk); (try clear hi)))
                        go_meet
                        case rel => exact ⟨_, (true), (by first | rfl | (simp; done) | (simp [*]; done)), H', ⟨by have := HJ3.out; have := HJ28.out; first | omega | exact Nat.le_refl _⟩, ⟨by (with_reducible repeat (first | refine blk_drewN ?_ _ | refine blk_drew ?_ | refine blk_alloc ?_ _)); exact BK1080.out⟩, ⟨by (with_reducible repeat (first | refine blk_drewN ?_ _ | refine blk_drew ?_ | refine blk_alloc ?_ _)); exact BK1081.out⟩, ⟨by (with_reducible repeat (first | refine blk_drewN ?_ _ | refine blk_drew ?_ | refine blk_alloc ?_ _)); exact BK1082.out⟩, ⟨by (with_reducible repeat (first | refine blk_drewN ?_ _ | refine blk_drew ?_ | refine blk_alloc ?_ _)); exact BK1091.out⟩, ⟨by (with_reducible repeat (first | refine blk_drewN ?_ _ | refine blk_drew ?_ | refine blk_alloc ?_ _)); exact BK1095.out⟩, ⟨by repeat (first | (with_reducible first | exact HB.out | apply below_alloc | apply pw_below_drewN | apply below_drew1 | refine below_set ?_ GE1080.out | refine below_set ?_ GE1081.out | refine below_set ?_ GE1082.out | refine below_set ?_ GE1091.out | refine below_set ?_ GE1095.out) | exact HB.out)⟩⟩
                · rw [if_neg c106] at H
                  have c106b0 : (t1094 == 0) = false := beq_eq_false_iff_ne.mpr c106
                  have c106b1 : (t1094 != 0) = true := bne_iff_ne.mpr c106
                  (first | rw [c106b0] | (simp only [i64_w, i32_w]; rw [c106b0]) | skip)
                  have H' := Aside0.mk H
                  clear H
                  go_wp2
                  go_meet
                  case rel => exact ⟨_, ((t1094 != 2)), (by first | rfl | (simp; done) | (simp [*]; done)), H', ⟨by have := HJ3.out; have := HJ28.out; first | omega | exact Nat.le_refl _⟩, ⟨by (with_reducible repeat (first | refine blk_drewN ?_ _ | refine blk_drew ?_ | refine blk_alloc ?_ _)); exact BK1080.out⟩, ⟨by (with_reducible repeat (first | refine blk_drewN ?_ _ | refine blk_drew ?_ | refine blk_alloc ?_ _)); exact BK1081.out⟩, ⟨by (with_reducible repeat (first | refine blk_drewN ?_ _ | refine blk_drew ?_ | refine blk_alloc ?_ _)); exact BK1082.out⟩, ⟨by (with_reducible repeat (first | refine blk_drewN ?_ _ | refine blk_drew ?_ | refine blk_alloc ?_ _)); exact BK1091.out⟩, ⟨by (with_reducible repeat (first | refine blk_drewN ?_ _ | refine blk_drew ?_ | refine blk_alloc ?_ _)); exact BK1095.out⟩, ⟨by repeat (first | (with_reducible first | exact HB.out | apply below_alloc | apply pw_below_drewN | apply below_drew1 | refine below_set ?_ GE1080.out | refine below_set ?_ GE1081.out | refine below_set ?_ GE1082.out | refine below_set ?_ GE1091.out | refine below_set ?_ GE1095.out) | exact HB.out)⟩⟩
              case rest =>
                clear HC105
                try clear c1
                try clear c2
                try clear p2
                try clear c3
                try clear c4
                try clear c5
                try clear c6
                try clear p6
                try clear c7
                try clear c8
                try clear c9
                try clear c10
                try clear c11
                try clear c12
                try clear c13
                try clear c14
                try clear c15
                try clear c16
                try clear c18
                try clear c19
                try clear c22
                try clear c33
                try clear c34
                try clear c36
                try clear c40
                try clear c41
                try clear c42
                try clear c48
                try clear c49
                try clear c50
                try clear c51
                try clear c53
                try clear c53b0
                try clear c53b1
                try clear c54
                try clear c54b0
                try clear c55
                try clear c56
                try clear c57
                try clear c58
                try clear c60
                try clear c60b0
                try clear c61
                try clear c62
                try clear c63
                try clear c64
                try clear p64
                try clear c66
                try clear c66b0
                try clear c66b1
                try clear c67
                try clear c67b0
                try clear c67b1
                try clear c68
                try clear c69
                try clear c70
                try clear c71
                try clear c73
                try clear c74
                try clear c75
                try clear c77
                try clear c78
                try clear c80
                try clear c81
                try clear c82
                try clear c83
                try clear c85
                try clear c86
                try clear c87
                try clear c89
                try clear c90
                try clear c92
                try clear c93
                try clear c94
                try clear c95
                try clear c97
                try clear c98
                try clear c99
                try clear c101
                try clear c102
                try clear c104
                try clear c106
                try clear c106b0
                try clear c106b1
                try clear c107
                try clear c107b0
                try clear c108
                try clear c109
                try clear c110
                try clear c111
                try clear c113
                try clear c113b0
                try clear c114
                try clear c115
                try clear c116
                try clear c117
                try clear c120
                try clear c122
                try clear c123
                try clear c124
                try clear c125
                try clear c126
                try clear c128
                try clear c129
                try clear c130
                try clear c132
                try clear c133
                try clear c140
                try clear c141
                try clear c142
                try clear c143
                try clear c145
                try clear c146
                try clear c147
                try clear c149
                try clear c150
                try clear c157
                try clear c158
                try clear c159
                try clear c160
                try clear c162
                try clear c163
                try clear c164
                try clear c166
                try clear c167
                try clear hcz100_0
                try clear hcz100_1
                try clear hcz103_0
                try clear hcz103_1
                try clear hcz112_0
                try clear hcz112_1
                try clear hcz118_0
                try clear hcz118_1
                try clear hcz127_0
                try clear hcz127_1
                try clear hcz131_0
                try clear hcz131_1
                try clear hcz134_0
                try clear hcz134_1
                try clear hcz136_0
                try clear hcz136_1
                try clear hcz137_0
                try clear hcz137_1
                try clear hcz138_0
                try clear hcz138_1
                try clear hcz13_0
                try clear hcz13_1
                try clear hcz144_0
                try clear hcz144_1
                try clear hcz148_0
                try clear hcz148_1
                try clear hcz151_0
                try clear hcz151_1
                try clear hcz153_0
                try clear hcz153_1
                try clear hcz154_0
                try clear hcz154_1
                try clear hcz155_0
                try clear hcz155_1
                try clear hcz161_0
                try clear hcz161_1
                try clear hcz165_0
                try clear hcz165_1
                try clear hcz168_0
                try clear hcz168_1
                try clear hcz16_0
                try clear hcz16_1
                try clear hcz20_0
                try clear hcz20_1
                try clear hcz35_0
                try clear hcz35_1
                try clear hcz37_0
                try clear hcz37_1
                try clear hcz43_0
                try clear hcz43_1
                try clear hcz44_0
                try clear hcz44_1
                try clear hcz45_0
                try clear hcz45_1
                try clear hcz52_0
                try clear hcz52_1
                try clear hcz59_0
                try clear hcz59_1
                try clear hcz65_0
                try clear hcz65_1
                try clear hcz72_0
                try clear hcz72_1
                try clear hcz76_0
                try clear hcz76_1
                try clear hcz79_0
                try clear hcz79_1
                try clear hcz84_0
                try clear hcz84_1
                try clear hcz88_0
                try clear hcz88_1
                try clear hcz91_0
                try clear hcz91_1
                try clear hcz96_0
                try clear hcz96_1
                try clear hfz100_0
                try clear hfz100_1
                try clear hfz103_0
                try clear hfz103_1
                try clear hfz112_0
                try clear hfz112_1
                try clear hfz118_0
                try clear hfz118_1
                try clear hfz127_0
                try clear hfz127_1
                try clear hfz131_0
                try clear hfz131_1
                try clear hfz134_0
                try clear hfz134_1
                try clear hfz136_0
                try clear hfz136_1
                try clear hfz137_0
                try clear hfz137_1
                try clear hfz138_0
                try clear hfz138_1
                try clear hfz13_0
                try clear hfz13_1
                try clear hfz144_0
                try clear hfz144_1
                try clear hfz148_0
                try clear hfz148_1
                try clear hfz151_0
                try clear hfz151_1
                try clear hfz153_0
                try clear hfz153_1
                try clear hfz154_0
                try clear hfz154_1
                try clear hfz155_0
                try clear hfz155_1
                try clear hfz161_0
                try clear hfz161_1
                try clear hfz165_0
                try clear hfz165_1
                try clear hfz168_0
                try clear hfz168_1
                try clear hfz16_0
                try clear hfz16_1
                try clear hfz20_0
                try clear hfz20_1
                try clear hfz35_0
                try clear hfz35_1
                try clear hfz37_0
                try clear hfz37_1
                try clear hfz43_0
                try clear hfz43_1
                try clear hfz44_0
                try clear hfz44_1
                try clear hfz45_0
                try clear hfz45_1
                try clear hfz52_0
                try clear hfz52_1
                try clear hfz59_0
                try clear hfz59_1
                try clear hfz65_0
                try clear hfz65_1
                try clear hfz72_0
                try clear hfz72_1
                try clear hfz76_0
                try clear hfz76_1
                try clear hfz79_0
                try clear hfz79_1
                try clear hfz84_0
                try clear hfz84_1
                try clear hfz88_0
                try clear hfz88_1
                try clear hfz91_0
                try clear hfz91_1
                try clear hfz96_0
                try clear hfz96_1
                try clear p2
                try clear p6
                try clear p64
                obtain ⟨kq, x133_104, rfl, HA, HJ104, BK1080, BK1081, BK1082, BK1091, BK1095, HB⟩ := hcut
                cases kq with
                | zero => exact absurd HA.out (by simp [swashplatelaw01_SpansEach.j2])
                | succ kj104 =>
                  have H := HA.out
                  clear HA
                  simp only [swashplatelaw01_SpansEach.j2] at H
                  by_cases c170 : x133_104 = true
                  · subst c170
                    have H1 : (some false) = some r := by rw [if_pos rfl] at H; exact H
                    clear H
                    have H := H1
                    clear H1
                    obtain rfl := Option.some.inj H
                    go_wp2
                    go_ret
                    exact ⟨by first | rfl | (simp [errW_none, errW_some] <;> rfl) | (simp [*, errW_none, errW_some] <;> rfl), by repeat (first | (with_reducible first | exact HB.out | apply below_alloc | apply pw_below_drewN | apply below_drew1 | refine below_set ?_ GE1080.out | refine below_set ?_ GE1081.out | refine below_set ?_ GE1082.out | refine below_set ?_ GE1091.out | refine below_set ?_ GE1095.out) | exact HB.out)⟩
                  · replace c170 := Bool.eq_false_iff.mpr c170
                    subst c170
                    have H1 : ((swashplatelaw01_within.f a2_2 0 1000).bind fun t1098 => ((swashplatelaw01_within.f a2_3 1 1000).bind fun t1099 => ((spans_Part.f kj104 a0_0 a0_1 t1098 t1099).bind fun bt1100 => (if bt1100.2.2 = 0 then (if (wrap64 (bt1100.1 * t1099)) ≤ (wrap64 (t1086 * t1098)) then (if (wrap64 (t1086 * t1098)) ≤ (wrap64 (bt1100.2.1 * t1099)) then ((swashplatelaw01_works.f kj104).bind fun t1104 => (some t1104)) else (some false)) else (some false)) else (if bt1100.2.2 = 2 then ((swashplatelaw01_works.f kj104).bind fun t1105 => (some t1105)) else (some false)))))) = some r := by rw [if_neg (show ¬ (false = true) by decide)] at H; exact H
                    clear H
                    have H := H1
                    clear H1
                    replace H := Option.bind_eq_some_iff.mp H
                    obtain ⟨t1098, A1710, H⟩ := H
                    replace H : ((swashplatelaw01_within.f a2_3 1 1000).bind fun t1099 => ((spans_Part.f kj104 a0_0 a0_1 t1098 t1099).bind fun bt1100 => (if bt1100.2.2 = 0 then (if (wrap64 (bt1100.1 * t1099)) ≤ (wrap64 (t1086 * t1098)) then (if (wrap64 (t1086 * t1098)) ≤ (wrap64 (bt1100.2.1 * t1099)) then ((swashplatelaw01_works.f kj104).bind fun t1104 => (some t1104)) else (some false)) else (some false)) else (if bt1100.2.2 = 2 then ((swashplatelaw01_works.f kj104).bind fun t1105 => (some t1105)) else (some false))))) = some r := H
                    have A171 := Aside0.mk A1710
                    clear A1710
                    replace H := Option.bind_eq_some_iff.mp H
                    obtain ⟨t1099, A1720, H⟩ := H
                    replace H : ((spans_Part.f kj104 a0_0 a0_1 t1098 t1099).bind fun bt1100 => (if bt1100.2.2 = 0 then (if (wrap64 (bt1100.1 * t1099)) ≤ (wrap64 (t1086 * t1098)) then (if (wrap64 (t1086 * t1098)) ≤ (wrap64 (bt1100.2.1 * t1099)) then ((swashplatelaw01_works.f kj104).bind fun t1104 => (some t1104)) else (some false)) else (some false)) else (if bt1100.2.2 = 2 then ((swashplatelaw01_works.f kj104).bind fun t1105 => (some t1105)) else (some false)))) = some r := H
                    have A172 := Aside0.mk A1720
                    clear A1720
                    replace H := Option.bind_eq_some_iff.mp H
                    obtain ⟨⟨t1100, t1101, t1102⟩, A1730, H⟩ := H
                    replace H : (if t1102 = 0 then (if (wrap64 (t1100 * t1099)) ≤ (wrap64 (t1086 * t1098)) then (if (wrap64 (t1086 * t1098)) ≤ (wrap64 (t1101 * t1099)) then ((swashplatelaw01_works.f kj104).bind fun t1104 => (some t1104)) else (some false)) else (some false)) else (if t1102 = 2 then ((swashplatelaw01_works.f kj104).bind fun t1105 => (some t1105)) else (some false))) = some r := H
                    have A173 := Aside0.mk A1730
                    clear A1730
                    by_cases c174 : t1102 = 0
                    · rw [if_pos c174] at H
                      have c174b0 : (t1102 == 0) = true := beq_iff_eq.mpr c174
                      have c174b1 : (t1102 != 0) = false := bne_eq_false_iff_eq.mpr c174
                      clear c174
                      by_cases c175 : (wrap64 (t1100 * t1099)) ≤ (wrap64 (t1086 * t1098))
                      · rw [if_pos c175] at H
                        have c175b0 : decide ((wrap64 (t1100 * t1099)) ≤ (wrap64 (t1086 * t1098))) = true := decide_eq_true c175
                        clear c175
                        by_cases c176 : (wrap64 (t1086 * t1098)) ≤ (wrap64 (t1101 * t1099))
                        · rw [if_pos c176] at H
                          have c176b0 : decide ((wrap64 (t1086 * t1098)) ≤ (wrap64 (t1101 * t1099))) = true := decide_eq_true c176
                          clear c176
                          replace H := Option.bind_eq_some_iff.mp H
                          obtain ⟨t1104, A1770, H⟩ := H
                          replace H : (some t1104) = some r := H
                          have A177 := Aside0.mk A1770
                          clear A1770
                          obtain rfl := Option.some.inj H
                          try go_wp2
                          have n0_ := Aside0.mk (blk_drew BK1080.out)
                          have n1_ := Aside0.mk (blk_drew BK1081.out)
                          have n2_ := Aside0.mk (blk_drew BK1082.out)
                          have n3_ := Aside0.mk (blk_drew BK1091.out)
                          have n4_ := Aside0.mk (blk_drew BK1095.out)
                          have n5_ := Aside0.mk (below_drew1 HB.out)
                          clear BK1080
                          clear BK1081
                          clear BK1082
                          clear BK1091
                          clear BK1095
                          clear HB
                          have BK1080 := n0_
                          have BK1081 := n1_
                          have BK1082 := n2_
                          have BK1091 := n3_
                          have BK1095 := n4_
                          have HB := n5_
                          clear n0_ n1_ n2_ n3_ n4_ n5_
                          refine start_ (n := 10) (S := fun w' => w'.cell? ⟨gb1082, 0, none⟩ = some (.int .i64 a2_0) ∧ w'.cell? ⟨gb1082, 1, none⟩ = some (.int .i64 a2_1) ∧ w'.cell? ⟨gb1082, 2, none⟩ = some (.int .i64 a2_2) ∧ w'.cell? ⟨gb1082, 3, none⟩ = some (.int .i64 a2_3)) (ds := []) #[false, false, false, false, false, false, false, false, false, false] (by kernel_rfl) rfl rfl ⟨(blk_cell BK1082.out 0).trans rfl, (blk_cell BK1082.out 1).trans rfl, (blk_cell BK1082.out 2).trans rfl, (blk_cell BK1082.out 3).trans rfl⟩ (fun hHeld => ?_); refine with_tabW swashplatelaw01_SpansEach.tab10 swashplatelaw01_SpansEach.bits10 (fun HT_ HW_ => ?_)
                          generalize wc.drew = w178 at BK1080 BK1081 BK1082 BK1091 BK1095 HB hHeld ⊢
                          refine pure_ (i := 0) (N := some 134) (v := ?_) (a' := ?_) #[true, false, false, false, false, false, false, false, false, false] rfl rfl (any_of HT_.out (by kernel_rfl)) (fun _ _ _ h => h) (Or.inl ⟨by rfl, ?_⟩) ?_ ?_
                          rotate_left
                          · intro w'
                            go_simp
                            with_reducible rfl
                          rotate_left
                          · simp only [Act.put, List.setIfInBounds_toArray, List.set_cons_zero, List.set_cons_succ, i64_w, i32_w]
                            rfl
                          refine pure_ (i := 2) (N := some 136) (v := ?_) (a' := ?_) #[true, false, true, false, false, false, false, false, false, false] rfl rfl (any_of HT_.out (by kernel_rfl)) (fun _ _ _ h => h) (Or.inl ⟨by rfl, ?_⟩) ?_ ?_
                          rotate_left
                          · intro w'
                            go_simp
                            with_reducible rfl
                          rotate_left
                          · simp only [Act.put, List.setIfInBounds_toArray, List.set_cons_zero, List.set_cons_succ, i64_w, i32_w]
                            rfl
                          refine pure_ (i := 4) (N := some 138) (v := ?_) (a' := ?_) #[true, false, true, false, true, false, false, false, false, false] rfl rfl (any_of HT_.out (by kernel_rfl)) (fun _ _ _ h => h) (Or.inl ⟨by rfl, ?_⟩) ?_ ?_
                          rotate_left
                          · intro w'
                            go_simp
                            with_reducible rfl
                          rotate_left
                          · simp only [Act.put, List.setIfInBounds_toArray, List.set_cons_zero, List.set_cons_succ, i64_w, i32_w]
                            rfl
                          refine pure_ (i := 6) (N := some 140) (v := ?_) (a' := ?_) #[true, false, true, false, true, false, true, false, false, false] rfl rfl (any_of HT_.out (by kernel_rfl)) (fun _ _ _ h => h) (Or.inl ⟨by rfl, ?_⟩) ?_ ?_
                          rotate_left
                          · intro w'
                            go_simp
                            with_reducible rfl
                          rotate_left
                          · simp only [Act.put, List.setIfInBounds_toArray, List.set_cons_zero, List.set_cons_succ, i64_w, i32_w]
                            rfl
                          refine take_ (i := 1) (N := some 135) (v := ?_) (a' := ?_) #[true, true, true, false, true, false, true, false, false, false] rfl rfl (take_ofW HT_.out HW_.out (by kernel_rfl)) (fun _ _ _ h => h) (Or.inl ⟨by rfl, ?_⟩) hHeld ?_ ?_
                          rotate_left
                          · rintro w' ⟨s0, s1, s2, s3⟩
                            go_simp
                            with_reducible rfl
                          rotate_left
                          · simp only [Act.put, List.setIfInBounds_toArray, List.set_cons_zero, List.set_cons_succ, i64_w, i32_w]
                            rfl
                          refine take_ (i := 5) (N := some 139) (v := ?_) (a' := ?_) #[true, true, true, false, true, true, true, false, false, false] rfl rfl (take_ofW HT_.out HW_.out (by kernel_rfl)) (fun _ _ _ h => h) (Or.inl ⟨by rfl, ?_⟩) hHeld ?_ ?_
                          rotate_left
                          · rintro w' ⟨s0, s1, s2, s3⟩
                            go_simp
                            with_reducible rfl
                          rotate_left
                          · simp only [Act.put, List.setIfInBounds_toArray, List.set_cons_zero, List.set_cons_succ, i64_w, i32_w]
                            rfl
                          refine one_ (i := 3) (N := some 137) #[true, true, true, true, true, true, true, false, false, false] rfl rfl (one_of HT_.out (by kernel_rfl)) (by decide) (fun K hK => ?_)
                          refine goes_ Try.func53 (by kernel_rfl) rfl #[.int .i64 a2_2, .agg #[.int .i64 0, .int .i64 1000]] (by rfl) rfl rfl (by (try simp only [List.map_toArray, List.map_cons, List.map_nil]); first | done | rfl | (simp only [List.length_drop, List.length_take]; rfl)) ?_
                          with_reducible refine (swashplatelaw01_within.calls a2_2 0 1000 t1098 _ A171.out).mono ?_
                          rintro e w179 ⟨rfl, hb⟩
                          refine ⟨_, rfl, ?_⟩
                          have n0_ := Aside0.mk (blk_below (g := gb1080) (o := .cells #[.int .i64 a0_0, .int .i64 a0_1] 27 (0, 0)) (by (with_reducible repeat (first | refine blk_drewN ?_ _ | refine blk_drew ?_ | refine blk_alloc ?_ _)); exact BK1080.out) hb)
                          have n1_ := Aside0.mk (blk_below (g := gb1081) (o := .cells #[.int .i64 a1_0, .int .i64 a1_1] 27 (0, 0)) (by (with_reducible repeat (first | refine blk_drewN ?_ _ | refine blk_drew ?_ | refine blk_alloc ?_ _)); exact BK1081.out) hb)
                          have n2_ := Aside0.mk (blk_below (g := gb1082) (o := .cells #[.int .i64 a2_0, .int .i64 a2_1, .int .i64 a2_2, .int .i64 a2_3] 92 (0, 0)) (by (with_reducible repeat (first | refine blk_drewN ?_ _ | refine blk_drew ?_ | refine blk_alloc ?_ _)); exact BK1082.out) hb)
                          have n3_ := Aside0.mk (blk_below (g := gb1091) (o := .cells #[.int .i64 t1088, .int .i64 t1089] 27 (0, 0)) (by (with_reducible repeat (first | refine blk_drewN ?_ _ | refine blk_drew ?_ | refine blk_alloc ?_ _)); exact BK1091.out) hb)
                          have n4_ := Aside0.mk (blk_below (g := gb1095) (o := .cells #[.int .i64 t1092, .int .i64 t1093] 27 (0, 0)) (by (with_reducible repeat (first | refine blk_drewN ?_ _ | refine blk_drew ?_ | refine blk_alloc ?_ _)); exact BK1095.out) hb)
                          have n5_ := Aside0.mk (below_step (by repeat (first | (with_reducible first | exact HB.out | apply below_alloc | apply pw_below_drewN | apply below_drew1 | refine below_set ?_ GE1080.out | refine below_set ?_ GE1081.out | refine below_set ?_ GE1082.out | refine below_set ?_ GE1091.out | refine below_set ?_ GE1095.out) | exact HB.out)) hb)
                          clear BK1080
                          clear BK1081
                          clear BK1082
                          clear BK1091
                          clear BK1095
                          clear HB
                          have BK1080 := n0_
                          have BK1081 := n1_
                          have BK1082 := n2_
                          have BK1091 := n3_
                          have BK1095 := n4_
                          have HB := n5_
                          clear n0_ n1_ n2_ n3_ n4_ n5_
                          (try clear hb)
                          (try clear hb2)
                          (try clear hk)
                          (try clear hi)
                          refine hK.out _ _ ⟨(blk_cell BK1082.out 0).trans rfl, (blk_cell BK1082.out 1).trans rfl, (blk_cell BK1082.out 2).trans rfl, (blk_cell BK1082.out 3).trans rfl⟩ (fun hHeld => ?_)
                          clear hK K
                          refine norm_ (a' := ?_) ?_ ?_
                          rotate_left
                          · show Act.put _ (some 137) _ = _
                            simp only [Act.put, List.setIfInBounds_toArray, List.set_cons_zero, List.set_cons_succ, i64_w, i32_w]
                            rfl
                          refine one_ (i := 7) (N := some 141) #[true, true, true, true, true, true, true, true, false, false] rfl rfl (one_of HT_.out (by kernel_rfl)) (by decide) (fun K hK => ?_)
                          refine goes_ Try.func53 (by kernel_rfl) rfl #[.int .i64 a2_3, .agg #[.int .i64 1, .int .i64 1000]] (by rfl) rfl rfl (by (try simp only [List.map_toArray, List.map_cons, List.map_nil]); first | done | rfl | (simp only [List.length_drop, List.length_take]; rfl)) ?_
                          with_reducible refine (swashplatelaw01_within.calls a2_3 1 1000 t1099 _ A172.out).mono ?_
                          rintro e w180 ⟨rfl, hb⟩
                          refine ⟨_, rfl, ?_⟩
                          have n0_ := Aside0.mk (blk_below (g := gb1080) (o := .cells #[.int .i64 a0_0, .int .i64 a0_1] 27 (0, 0)) (by (with_reducible repeat (first | refine blk_drewN ?_ _ | refine blk_drew ?_ | refine blk_alloc ?_ _)); exact BK1080.out) hb)
                          have n1_ := Aside0.mk (blk_below (g := gb1081) (o := .cells #[.int .i64 a1_0, .int .i64 a1_1] 27 (0, 0)) (by (with_reducible repeat (first | refine blk_drewN ?_ _ | refine blk_drew ?_ | refine blk_alloc ?_ _)); exact BK1081.out) hb)
                          have n2_ := Aside0.mk (blk_below (g := gb1082) (o := .cells #[.int .i64 a2_0, .int .i64 a2_1, .int .i64 a2_2, .int .i64 a2_3] 92 (0, 0)) (by (with_reducible repeat (first | refine blk_drewN ?_ _ | refine blk_drew ?_ | refine blk_alloc ?_ _)); exact BK1082.out) hb)
                          have n3_ := Aside0.mk (blk_below (g := gb1091) (o := .cells #[.int .i64 t1088, .int .i64 t1089] 27 (0, 0)) (by (with_reducible repeat (first | refine blk_drewN ?_ _ | refine blk_drew ?_ | refine blk_alloc ?_ _)); exact BK1091.out) hb)
                          have n4_ := Aside0.mk (blk_below (g := gb1095) (o := .cells #[.int .i64 t1092, .int .i64 t1093] 27 (0, 0)) (by (with_reducible repeat (first | refine blk_drewN ?_ _ | refine blk_drew ?_ | refine blk_alloc ?_ _)); exact BK1095.out) hb)
                          have n5_ := Aside0.mk (below_step (by repeat (first | (with_reducible first | exact HB.out | apply below_alloc | apply pw_below_drewN | apply below_drew1 | refine below_set ?_ GE1080.out | refine below_set ?_ GE1081.out | refine below_set ?_ GE1082.out | refine below_set ?_ GE1091.out | refine below_set ?_ GE1095.out) | exact HB.out)) hb)
                          clear BK1080
                          clear BK1081
                          clear BK1082
                          clear BK1091
                          clear BK1095
                          clear HB
                          have BK1080 := n0_
                          have BK1081 := n1_
                          have BK1082 := n2_
                          have BK1091 := n3_
                          have BK1095 := n4_
                          have HB := n5_
                          clear n0_ n1_ n2_ n3_ n4_ n5_
                          (try clear hb)
                          (try clear hb2)
                          (try clear hk)
                          (try clear hi)
                          refine hK.out _ _ ⟨(blk_cell BK1082.out 0).trans rfl, (blk_cell BK1082.out 1).trans rfl, (blk_cell BK1082.out 2).trans rfl, (blk_cell BK1082.out 3).trans rfl⟩ (fun hHeld => ?_)
                          clear hK K
                          refine norm_ (a' := ?_) ?_ ?_
                          rotate_left
                          · show Act.put _ (some 141) _ = _
                            simp only [Act.put, List.setIfInBounds_toArray, List.set_cons_zero, List.set_cons_succ, i64_w, i32_w]
                            rfl
                          refine pure_ (i := 8) (N := some 13) (v := ?_) (a' := ?_) #[true, true, true, true, true, true, true, true, true, false] rfl rfl (any_of HT_.out (by kernel_rfl)) (fun _ _ _ h => h) (Or.inl ⟨by rfl, ?_⟩) ?_ ?_
                          rotate_left
                          · intro w'
                            go_simp
                            with_reducible rfl
                          rotate_left
                          · simp only [Act.put, List.setIfInBounds_toArray, List.set_cons_zero, List.set_cons_succ, i64_w, i32_w]
                            rfl
                          refine pure_ (i := 9) (N := some 14) (v := ?_) (a' := ?_) #[true, true, true, true, true, true, true, true, true, true] rfl rfl (any_of HT_.out (by kernel_rfl)) (fun _ _ _ h => h) (Or.inl ⟨by rfl, ?_⟩) ?_ ?_
                          rotate_left
                          · intro w'
                            go_simp
                            with_reducible rfl
                          rotate_left
                          · simp only [Act.put, List.setIfInBounds_toArray, List.set_cons_zero, List.set_cons_succ, i64_w, i32_w]
                            rfl
                          refine done_ (done_of HT_.out (by kernel_rfl)) ?_
                          have hnb181 := NB1080_1081.out
                          have hnc181 := NB1081_1080.out
                          have hnb182 := NB1080_1082.out
                          have hnc182 := NB1082_1080.out
                          have hnb183 := NB1080_1091.out
                          have hnc183 := NB1091_1080.out
                          have hnb184 := NB1080_1095.out
                          have hnc184 := NB1095_1080.out
                          have hcz185_0 : w180.cell? ⟨gb1080, 0, none⟩ = some (.int .i64 a0_0) := (blk_cell BK1080.out 0).trans rfl
                          have hcz185_1 : w180.cell? ⟨gb1080, 1, none⟩ = some (.int .i64 a0_1) := (blk_cell BK1080.out 1).trans rfl
                          have hfz185_0 := blk_frozen BK1080.out 0
                          have hfz185_1 := blk_frozen BK1080.out 1
                          try go_wp2_with (first | ((with_reducible refine gate_callee (f := 57) rfl ?_); refine goesL_ (some 146) rfl rfl Try.func57 (by kernel_rfl) rfl #[.agg #[.int .i64 a0_0, .int .i64 a0_1], .int .i64 t1098, .int .i64 t1099] rfl (by (try simp only [List.map_toArray, List.map_cons, List.map_nil]); first | done | rfl | (simp only [List.length_drop, List.length_take]; rfl)) ?_; (with_reducible refine (spans_Part.calls kj104 a0_0 a0_1 t1098 t1099 t1100 t1101 t1102 _ A173.out).mono ?_); rintro e w186 ⟨rfl, hb⟩; refine ⟨_, rfl, ?_⟩; have n0_ := Aside0.mk (blk_below (g := gb1080) (o := .cells #[.int .i64 a0_0, .int .i64 a0_1] 27 (0, 0)) (by (with_reducible repeat (first | refine blk_drewN ?_ _ | refine blk_drew ?_ | refine blk_alloc ?_ _)); exact BK1080.out) hb); have n1_ := Aside0.mk (blk_below (g := gb1081) (o := .cells #[.int .i64 a1_0, .int .i64 a1_1] 27 (0, 0)) (by (with_reducible repeat (first | refine blk_drewN ?_ _ | refine blk_drew ?_ | refine blk_alloc ?_ _)); exact BK1081.out) hb); have n2_ := Aside0.mk (blk_below (g := gb1082) (o := .cells #[.int .i64 a2_0, .int .i64 a2_1, .int .i64 a2_2, .int .i64 a2_3] 92 (0, 0)) (by (with_reducible repeat (first | refine blk_drewN ?_ _ | refine blk_drew ?_ | refine blk_alloc ?_ _)); exact BK1082.out) hb); have n3_ := Aside0.mk (blk_below (g := gb1091) (o := .cells #[.int .i64 t1088, .int .i64 t1089] 27 (0, 0)) (by (with_reducible repeat (first | refine blk_drewN ?_ _ | refine blk_drew ?_ | refine blk_alloc ?_ _)); exact BK1091.out) hb); have n4_ := Aside0.mk (blk_below (g := gb1095) (o := .cells #[.int .i64 t1092, .int .i64 t1093] 27 (0, 0)) (by (with_reducible repeat (first | refine blk_drewN ?_ _ | refine blk_drew ?_ | refine blk_alloc ?_ _)); exact BK1095.out) hb); have n5_ := Aside0.mk (below_step (by repeat (first | (with_reducible first | exact HB.out | apply below_alloc | apply pw_below_drewN | apply below_drew1 | refine below_set ?_ GE1080.out | refine below_set ?_ GE1081.out | refine below_set ?_ GE1082.out | refine below_set ?_ GE1091.out | refine below_set ?_ GE1095.out) | exact HB.out)) hb); clear BK1080; clear BK1081; clear BK1082; clear BK1091; clear BK1095; clear HB; have BK1080 := n0_; have BK1081 := n1_; have BK1082 := n2_; have BK1091 := n3_; have BK1095 := n4_; have HB := n5_; clear n0_ n1_ n2_ n3_ n4_ n5_; (try clear hb); (try clear hb2); (try clear hk); (try clear hi)) | ((with_reducible refine gate_dst (N := 15) rfl ?_); refine box_event ?hg (N := 15) ?hd (cs := #[.int .i64 0, .int .i64 0]) (t := 27) ?hr ?_; (case hd => rfl); (case hg => rfl); (case hr => first | (go_simp; done) | (go_simp; rfl)); intro gb1103 hg w187 hbox hb; have n0_ := Aside0.mk (blk_below (g := gb1080) (o := .cells #[.int .i64 a0_0, .int .i64 a0_1] 27 (0, 0)) (by (with_reducible repeat (first | refine blk_drewN ?_ _ | refine blk_drew ?_ | refine blk_alloc ?_ _)); exact BK1080.out) hb); have n1_ := Aside0.mk (blk_below (g := gb1081) (o := .cells #[.int .i64 a1_0, .int .i64 a1_1] 27 (0, 0)) (by (with_reducible repeat (first | refine blk_drewN ?_ _ | refine blk_drew ?_ | refine blk_alloc ?_ _)); exact BK1081.out) hb); have n2_ := Aside0.mk (blk_below (g := gb1082) (o := .cells #[.int .i64 a2_0, .int .i64 a2_1, .int .i64 a2_2, .int .i64 a2_3] 92 (0, 0)) (by (with_reducible repeat (first | refine blk_drewN ?_ _ | refine blk_drew ?_ | refine blk_alloc ?_ _)); exact BK1082.out) hb); have n3_ := Aside0.mk (blk_below (g := gb1091) (o := .cells #[.int .i64 t1088, .int .i64 t1089] 27 (0, 0)) (by (with_reducible repeat (first | refine blk_drewN ?_ _ | refine blk_drew ?_ | refine blk_alloc ?_ _)); exact BK1091.out) hb); have n4_ := Aside0.mk (blk_below (g := gb1095) (o := .cells #[.int .i64 t1092, .int .i64 t1093] 27 (0, 0)) (by (with_reducible repeat (first | refine blk_drewN ?_ _ | refine blk_drew ?_ | refine blk_alloc ?_ _)); exact BK1095.out) hb); have n5_ := Aside0.mk (below_step (by repeat (first | (with_reducible first | exact HB.out | apply below_alloc | apply pw_below_drewN | apply below_drew1 | refine below_set ?_ GE1080.out | refine below_set ?_ GE1081.out | refine below_set ?_ GE1082.out | refine below_set ?_ GE1091.out | refine below_set ?_ GE1095.out) | exact HB.out)) hb); have n6_ := Aside0.mk (hbox); have n7_ := Aside0.mk ((by rw [hg]; exact (below_size (by repeat (first | (with_reducible first | exact HB.out | apply below_alloc | apply pw_below_drewN | apply below_drew1 | refine below_set ?_ GE1080.out | refine below_set ?_ GE1081.out | refine below_set ?_ GE1082.out | refine below_set ?_ GE1091.out | refine below_set ?_ GE1095.out) | exact HB.out))) : w.heap.size ≤ gb1103)); have n8_ := Aside0.mk ((by rw [hg]; exact (below_size (by repeat (first | (with_reducible first | exact HB.out | apply below_alloc | apply pw_below_drewN | apply below_drew1 | refine below_set ?_ GE1080.out | refine below_set ?_ GE1081.out | refine below_set ?_ GE1082.out | refine below_set ?_ GE1091.out | refine below_set ?_ GE1095.out) | exact HB.out))) : w.heap.size ≤ gb1103)); have n9_ := Aside0.mk ((by rw [hg]; exact Nat.ne_of_lt (blk_lt (g := gb1080) (o := .cells #[.int .i64 a0_0, .int .i64 a0_1] 27 (0, 0)) (by (with_reducible repeat (first | refine blk_drewN ?_ _ | refine blk_drew ?_ | refine blk_alloc ?_ _)); exact BK1080.out)) : gb1080 ≠ gb1103)); have n10_ := Aside0.mk ((by rw [hg]; exact Nat.ne_of_gt (blk_lt (g := gb1080) (o := .cells #[.int .i64 a0_0, .int .i64 a0_1] 27 (0, 0)) (by (with_reducible repeat (first | refine blk_drewN ?_ _ | refine blk_drew ?_ | refine blk_alloc ?_ _)); exact BK1080.out)) : gb1103 ≠ gb1080)); have n11_ := Aside0.mk ((by rw [hg]; exact Nat.ne_of_lt (blk_lt (g := gb1081) (o := .cells #[.int .i64 a1_0, .int .i64 a1_1] 27 (0, 0)) (by (with_reducible repeat (first | refine blk_drewN ?_ _ | refine blk_drew ?_ | refine blk_alloc ?_ _)); exact BK1081.out)) : gb1081 ≠ gb1103)); have n12_ := Aside0.mk ((by rw [hg]; exact Nat.ne_of_gt (blk_lt (g := gb1081) (o := .cells #[.int .i64 a1_0, .int .i64 a1_1] 27 (0, 0)) (by (with_reducible repeat (first | refine blk_drewN ?_ _ | refine blk_drew ?_ | refine blk_alloc ?_ _)); exact BK1081.out)) : gb1103 ≠ gb1081)); have n13_ := Aside0.mk ((by rw [hg]; exact Nat.ne_of_lt (blk_lt (g := gb1082) (o := .cells #[.int .i64 a2_0, .int .i64 a2_1, .int .i64 a2_2, .int .i64 a2_3] 92 (0, 0)) (by (with_reducible repeat (first | refine blk_drewN ?_ _ | refine blk_drew ?_ | refine blk_alloc ?_ _)); exact BK1082.out)) : gb1082 ≠ gb1103)); have n14_ := Aside0.mk ((by rw [hg]; exact Nat.ne_of_gt (blk_lt (g := gb1082) (o := .cells #[.int .i64 a2_0, .int .i64 a2_1, .int .i64 a2_2, .int .i64 a2_3] 92 (0, 0)) (by (with_reducible repeat (first | refine blk_drewN ?_ _ | refine blk_drew ?_ | refine blk_alloc ?_ _)); exact BK1082.out)) : gb1103 ≠ gb1082)); have n15_ := Aside0.mk ((by rw [hg]; exact Nat.ne_of_lt (blk_lt (g := gb1091) (o := .cells #[.int .i64 t1088, .int .i64 t1089] 27 (0, 0)) (by (with_reducible repeat (first | refine blk_drewN ?_ _ | refine blk_drew ?_ | refine blk_alloc ?_ _)); exact BK1091.out)) : gb1091 ≠ gb1103)); have n16_ := Aside0.mk ((by rw [hg]; exact Nat.ne_of_gt (blk_lt (g := gb1091) (o := .cells #[.int .i64 t1088, .int .i64 t1089] 27 (0, 0)) (by (with_reducible repeat (first | refine blk_drewN ?_ _ | refine blk_drew ?_ | refine blk_alloc ?_ _)); exact BK1091.out)) : gb1103 ≠ gb1091)); have n17_ := Aside0.mk ((by rw [hg]; exact Nat.ne_of_lt (blk_lt (g := gb1095) (o := .cells #[.int .i64 t1092, .int .i64 t1093] 27 (0, 0)) (by (with_reducible repeat (first | refine blk_drewN ?_ _ | refine blk_drew ?_ | refine blk_alloc ?_ _)); exact BK1095.out)) : gb1095 ≠ gb1103)); have n18_ := Aside0.mk ((by rw [hg]; exact Nat.ne_of_gt (blk_lt (g := gb1095) (o := .cells #[.int .i64 t1092, .int .i64 t1093] 27 (0, 0)) (by (with_reducible repeat (first | refine blk_drewN ?_ _ | refine blk_drew ?_ | refine blk_alloc ?_ _)); exact BK1095.out)) : gb1103 ≠ gb1095)); clear BK1080; clear BK1081; clear BK1082; clear BK1091; clear BK1095; clear HB; have BK1080 := n0_; have BK1081 := n1_; have BK1082 := n2_; have BK1091 := n3_; have BK1095 := n4_; have HB := n5_; have BK1103 := n6_; have GW1103 := n7_; have GE1103 := n8_; have NB1080_1103 := n9_; have NB1103_1080 := n10_; have NB1081_1103 := n11_; have NB1103_1081 := n12_; have NB1082_1103 := n13_; have NB1103_1082 := n14_; have NB1091_1103 := n15_; have NB1103_1091 := n16_; have NB1095_1103 := n17_; have NB1103_1095 := n18_; clear n0_ n1_ n2_ n3_ n4_ n5_ n6_ n7_ n8_ n9_ n10_ n11_ n12_ n13_ n14_ n15_ n16_ n17_ n18_; clear hb hbox hg; have hnb188 := NB1103_1080.out; have hnc188 := NB1080_1103.out; have hnb189 := NB1103_1081.out; have hnc189 := NB1081_1103.out; have hnb190 := NB1103_1082.out; have hnc190 := NB1082_1103.out; have hnb191 := NB1103_1091.out; have hnc191 := NB1091_1103.out; have hnb192 := NB1103_1095.out; have hnc192 := NB1095_1103.out; have hcz193_0 : w187.cell? ⟨gb1103, 0, none⟩ = some (.int .i64 0) := (blk_cell BK1103.out 0).trans rfl; have hcz193_1 : w187.cell? ⟨gb1103, 1, none⟩ = some (.int .i64 0) := (blk_cell BK1103.out 1).trans rfl; have hfz193_0 := blk_frozen BK1103.out 0; have hfz193_1 := blk_frozen BK1103.out 1) | (go_at_call 22; (with_reducible refine (swashplatelaw01_works.calls kj104  t1104 _ A177.out).mono ?_); rintro e w194 ⟨rfl, hb⟩; have n0_ := Aside0.mk (blk_below (g := gb1080) (o := .cells #[.int .i64 a0_0, .int .i64 a0_1] 27 (0, 0)) (by (with_reducible repeat (first | refine blk_drewN ?_ _ | refine blk_drew ?_ | refine blk_alloc ?_ _)); refine blk_far ?_ NB1080_1103.out _; (with_reducible repeat (first | refine blk_drewN ?_ _ | refine blk_drew ?_ | refine blk_alloc ?_ _)); refine blk_far ?_ NB1080_1103.out _; (with_reducible repeat (first | refine blk_drewN ?_ _ | refine blk_drew ?_ | refine blk_alloc ?_ _)); exact BK1080.out) hb); have n1_ := Aside0.mk (blk_below (g := gb1081) (o := .cells #[.int .i64 a1_0, .int .i64 a1_1] 27 (0, 0)) (by (with_reducible repeat (first | refine blk_drewN ?_ _ | refine blk_drew ?_ | refine blk_alloc ?_ _)); refine blk_far ?_ NB1081_1103.out _; (with_reducible repeat (first | refine blk_drewN ?_ _ | refine blk_drew ?_ | refine blk_alloc ?_ _)); refine blk_far ?_ NB1081_1103.out _; (with_reducible repeat (first | refine blk_drewN ?_ _ | refine blk_drew ?_ | refine blk_alloc ?_ _)); exact BK1081.out) hb); have n2_ := Aside0.mk (blk_below (g := gb1082) (o := .cells #[.int .i64 a2_0, .int .i64 a2_1, .int .i64 a2_2, .int .i64 a2_3] 92 (0, 0)) (by (with_reducible repeat (first | refine blk_drewN ?_ _ | refine blk_drew ?_ | refine blk_alloc ?_ _)); refine blk_far ?_ NB1082_1103.out _; (with_reducible repeat (first | refine blk_drewN ?_ _ | refine blk_drew ?_ | refine blk_alloc ?_ _)); refine blk_far ?_ NB1082_1103.out _; (with_reducible repeat (first | refine blk_drewN ?_ _ | refine blk_drew ?_ | refine blk_alloc ?_ _)); exact BK1082.out) hb); have n3_ := Aside0.mk (blk_below (g := gb1091) (o := .cells #[.int .i64 t1088, .int .i64 t1089] 27 (0, 0)) (by (with_reducible repeat (first | refine blk_drewN ?_ _ | refine blk_drew ?_ | refine blk_alloc ?_ _)); refine blk_far ?_ NB1091_1103.out _; (with_reducible repeat (first | refine blk_drewN ?_ _ | refine blk_drew ?_ | refine blk_alloc ?_ _)); refine blk_far ?_ NB1091_1103.out _; (with_reducible repeat (first | refine blk_drewN ?_ _ | refine blk_drew ?_ | refine blk_alloc ?_ _)); exact BK1091.out) hb); have n4_ := Aside0.mk (blk_below (g := gb1095) (o := .cells #[.int .i64 t1092, .int .i64 t1093] 27 (0, 0)) (by (with_reducible repeat (first | refine blk_drewN ?_ _ | refine blk_drew ?_ | refine blk_alloc ?_ _)); refine blk_far ?_ NB1095_1103.out _; (with_reducible repeat (first | refine blk_drewN ?_ _ | refine blk_drew ?_ | refine blk_alloc ?_ _)); refine blk_far ?_ NB1095_1103.out _; (with_reducible repeat (first | refine blk_drewN ?_ _ | refine blk_drew ?_ | refine blk_alloc ?_ _)); exact BK1095.out) hb); have n5_ := Aside0.mk (blk_below (g := gb1103) (o := .cells #[.int .i64 t1100, .int .i64 t1101] 27 (0, 0)) (by (with_reducible repeat (first | refine blk_drewN ?_ _ | refine blk_drew ?_ | refine blk_alloc ?_ _)); refine blk_put (cs := #[.int .i64 t1100, .int .i64 0]) ?_ 1 _ rfl; (with_reducible repeat (first | refine blk_drewN ?_ _ | refine blk_drew ?_ | refine blk_alloc ?_ _)); refine blk_put (cs := #[.int .i64 0, .int .i64 0]) ?_ 0 _ rfl; (with_reducible repeat (first | refine blk_drewN ?_ _ | refine blk_drew ?_ | refine blk_alloc ?_ _)); exact BK1103.out) hb); have n6_ := Aside0.mk (below_step (by repeat (first | (with_reducible first | exact HB.out | apply below_alloc | apply pw_below_drewN | apply below_drew1 | refine below_set ?_ GE1080.out | refine below_set ?_ GE1081.out | refine below_set ?_ GE1082.out | refine below_set ?_ GE1091.out | refine below_set ?_ GE1095.out | refine below_set ?_ GE1103.out) | exact HB.out)) hb); clear BK1080; clear BK1081; clear BK1082; clear BK1091; clear BK1095; clear BK1103; clear HB; have BK1080 := n0_; have BK1081 := n1_; have BK1082 := n2_; have BK1091 := n3_; have BK1095 := n4_; have BK1103 := n5_; have HB := n6_; clear n0_ n1_ n2_ n3_ n4_ n5_ n6_; (try clear hb); (try clear hb2); (try clear hk); (try clear hi)))
                          go_ret
                          exact ⟨by first | rfl | (simp [errW_none, errW_some] <;> rfl) | (simp [*, errW_none, errW_some] <;> rfl), by repeat (first | (with_reducible first | exact HB.out | apply below_alloc | apply pw_below_drewN | apply below_drew1 | refine below_set ?_ GE1080.out | refine below_set ?_ GE1081.out | refine below_set ?_ GE1082.out | refine below_set ?_ GE1091.out | refine below_set ?_ GE1095.out | refine below_set ?_ GE1103.out) | exact HB.out)⟩
                        · rw [if_neg c176] at H
                          have c176b0 : decide ((wrap64 (t1086 * t1098)) ≤ (wrap64 (t1101 * t1099))) = false := decide_eq_false c176
                          clear c176
                          obtain rfl := Option.some.inj H
                          try go_wp2
                          have n0_ := Aside0.mk (blk_drew BK1080.out)
                          have n1_ := Aside0.mk (blk_drew BK1081.out)
                          have n2_ := Aside0.mk (blk_drew BK1082.out)
                          have n3_ := Aside0.mk (blk_drew BK1091.out)
                          have n4_ := Aside0.mk (blk_drew BK1095.out)
                          have n5_ := Aside0.mk (below_drew1 HB.out)
                          clear BK1080
                          clear BK1081
                          clear BK1082
                          clear BK1091
                          clear BK1095
                          clear HB
                          have BK1080 := n0_
                          have BK1081 := n1_
                          have BK1082 := n2_
                          have BK1091 := n3_
                          have BK1095 := n4_
                          have HB := n5_
                          clear n0_ n1_ n2_ n3_ n4_ n5_
                          refine start_ (n := 10) (S := fun w' => w'.cell? ⟨gb1082, 0, none⟩ = some (.int .i64 a2_0) ∧ w'.cell? ⟨gb1082, 1, none⟩ = some (.int .i64 a2_1) ∧ w'.cell? ⟨gb1082, 2, none⟩ = some (.int .i64 a2_2) ∧ w'.cell? ⟨gb1082, 3, none⟩ = some (.int .i64 a2_3)) (ds := []) #[false, false, false, false, false, false, false, false, false, false] (by kernel_rfl) rfl rfl ⟨(blk_cell BK1082.out 0).trans rfl, (blk_cell BK1082.out 1).trans rfl, (blk_cell BK1082.out 2).trans rfl, (blk_cell BK1082.out 3).trans rfl⟩ (fun hHeld => ?_); refine with_tabW swashplatelaw01_SpansEach.tab10 swashplatelaw01_SpansEach.bits10 (fun HT_ HW_ => ?_)
                          generalize wc.drew = w195 at BK1080 BK1081 BK1082 BK1091 BK1095 HB hHeld ⊢
                          refine pure_ (i := 0) (N := some 134) (v := ?_) (a' := ?_) #[true, false, false, false, false, false, false, false, false, false] rfl rfl (any_of HT_.out (by kernel_rfl)) (fun _ _ _ h => h) (Or.inl ⟨by rfl, ?_⟩) ?_ ?_
                          rotate_left
                          · intro w'
                            go_simp
                            with_reducible rfl
                          rotate_left
                          · simp only [Act.put, List.setIfInBounds_toArray, List.set_cons_zero, List.set_cons_succ, i64_w, i32_w]
                            rfl
                          refine pure_ (i := 2) (N := some 136) (v := ?_) (a' := ?_) #[true, false, true, false, false, false, false, false, false, false] rfl rfl (any_of HT_.out (by kernel_rfl)) (fun _ _ _ h => h) (Or.inl ⟨by rfl, ?_⟩) ?_ ?_
                          rotate_left
                          · intro w'
                            go_simp
                            with_reducible rfl
                          rotate_left
                          · simp only [Act.put, List.setIfInBounds_toArray, List.set_cons_zero, List.set_cons_succ, i64_w, i32_w]
                            rfl
                          refine pure_ (i := 4) (N := some 138) (v := ?_) (a' := ?_) #[true, false, true, false, true, false, false, false, false, false] rfl rfl (any_of HT_.out (by kernel_rfl)) (fun _ _ _ h => h) (Or.inl ⟨by rfl, ?_⟩) ?_ ?_
                          rotate_left
                          · intro w'
                            go_simp
                            with_reducible rfl
                          rotate_left
                          · simp only [Act.put, List.setIfInBounds_toArray, List.set_cons_zero, List.set_cons_succ, i64_w, i32_w]
                            rfl
                          refine pure_ (i := 6) (N := some 140) (v := ?_) (a' := ?_) #[true, false, true, false, true, false, true, false, false, false] rfl rfl (any_of HT_.out (by kernel_rfl)) (fun _ _ _ h => h) (Or.inl ⟨by rfl, ?_⟩) ?_ ?_
                          rotate_left
                          · intro w'
                            go_simp
                            with_reducible rfl
                          rotate_left
                          · simp only [Act.put, List.setIfInBounds_toArray, List.set_cons_zero, List.set_cons_succ, i64_w, i32_w]
                            rfl
                          refine take_ (i := 1) (N := some 135) (v := ?_) (a' := ?_) #[true, true, true, false, true, false, true, false, false, false] rfl rfl (take_ofW HT_.out HW_.out (by kernel_rfl)) (fun _ _ _ h => h) (Or.inl ⟨by rfl, ?_⟩) hHeld ?_ ?_
                          rotate_left
                          · rintro w' ⟨s0, s1, s2, s3⟩
                            go_simp
                            with_reducible rfl
                          rotate_left
                          · simp only [Act.put, List.setIfInBounds_toArray, List.set_cons_zero, List.set_cons_succ, i64_w, i32_w]
                            rfl
                          refine take_ (i := 5) (N := some 139) (v := ?_) (a' := ?_) #[true, true, true, false, true, true, true, false, false, false] rfl rfl (take_ofW HT_.out HW_.out (by kernel_rfl)) (fun _ _ _ h => h) (Or.inl ⟨by rfl, ?_⟩) hHeld ?_ ?_
                          rotate_left
                          · rintro w' ⟨s0, s1, s2, s3⟩
                            go_simp
                            with_reducible rfl
                          rotate_left
                          · simp only [Act.put, List.setIfInBounds_toArray, List.set_cons_zero, List.set_cons_succ, i64_w, i32_w]
                            rfl
                          refine one_ (i := 3) (N := some 137) #[true, true, true, true, true, true, true, false, false, false] rfl rfl (one_of HT_.out (by kernel_rfl)) (by decide) (fun K hK => ?_)
                          refine goes_ Try.func53 (by kernel_rfl) rfl #[.int .i64 a2_2, .agg #[.int .i64 0, .int .i64 1000]] (by rfl) rfl rfl (by (try simp only [List.map_toArray, List.map_cons, List.map_nil]); first | done | rfl | (simp only [List.length_drop, List.length_take]; rfl)) ?_
                          with_reducible refine (swashplatelaw01_within.calls a2_2 0 1000 t1098 _ A171.out).mono ?_
                          rintro e w196 ⟨rfl, hb⟩
                          refine ⟨_, rfl, ?_⟩
                          have n0_ := Aside0.mk (blk_below (g := gb1080) (o := .cells #[.int .i64 a0_0, .int .i64 a0_1] 27 (0, 0)) (by (with_reducible repeat (first | refine blk_drewN ?_ _ | refine blk_drew ?_ | refine blk_alloc ?_ _)); exact BK1080.out) hb)
                          have n1_ := Aside0.mk (blk_below (g := gb1081) (o := .cells #[.int .i64 a1_0, .int .i64 a1_1] 27 (0, 0)) (by (with_reducible repeat (first | refine blk_drewN ?_ _ | refine blk_drew ?_ | refine blk_alloc ?_ _)); exact BK1081.out) hb)
                          have n2_ := Aside0.mk (blk_below (g := gb1082) (o := .cells #[.int .i64 a2_0, .int .i64 a2_1, .int .i64 a2_2, .int .i64 a2_3] 92 (0, 0)) (by (with_reducible repeat (first | refine blk_drewN ?_ _ | refine blk_drew ?_ | refine blk_alloc ?_ _)); exact BK1082.out) hb)
                          have n3_ := Aside0.mk (blk_below (g := gb1091) (o := .cells #[.int .i64 t1088, .int .i64 t1089] 27 (0, 0)) (by (with_reducible repeat (first | refine blk_drewN ?_ _ | refine blk_drew ?_ | refine blk_alloc ?_ _)); exact BK1091.out) hb)
                          have n4_ := Aside0.mk (blk_below (g := gb1095) (o := .cells #[.int .i64 t1092, .int .i64 t1093] 27 (0, 0)) (by (with_reducible repeat (first | refine blk_drewN ?_ _ | refine blk_drew ?_ | refine blk_alloc ?_ _)); exact BK1095.out) hb)
                          have n5_ := Aside0.mk (below_step (by repeat (first | (with_reducible first | exact HB.out | apply below_alloc | apply pw_below_drewN | apply below_drew1 | refine below_set ?_ GE1080.out | refine below_set ?_ GE1081.out | refine below_set ?_ GE1082.out | refine below_set ?_ GE1091.out | refine below_set ?_ GE1095.out) | exact HB.out)) hb)
                          clear BK1080
                          clear BK1081
                          clear BK1082
                          clear BK1091
                          clear BK1095
                          clear HB
                          have BK1080 := n0_
                          have BK1081 := n1_
                          have BK1082 := n2_
                          have BK1091 := n3_
                          have BK1095 := n4_
                          have HB := n5_
                          clear n0_ n1_ n2_ n3_ n4_ n5_
                          (try clear hb)
                          (try clear hb2)
                          (try clear hk)
                          (try clear hi)
                          refine hK.out _ _ ⟨(blk_cell BK1082.out 0).trans rfl, (blk_cell BK1082.out 1).trans rfl, (blk_cell BK1082.out 2).trans rfl, (blk_cell BK1082.out 3).trans rfl⟩ (fun hHeld => ?_)
                          clear hK K
                          refine norm_ (a' := ?_) ?_ ?_
                          rotate_left
                          · show Act.put _ (some 137) _ = _
                            simp only [Act.put, List.setIfInBounds_toArray, List.set_cons_zero, List.set_cons_succ, i64_w, i32_w]
                            rfl
                          refine one_ (i := 7) (N := some 141) #[true, true, true, true, true, true, true, true, false, false] rfl rfl (one_of HT_.out (by kernel_rfl)) (by decide) (fun K hK => ?_)
                          refine goes_ Try.func53 (by kernel_rfl) rfl #[.int .i64 a2_3, .agg #[.int .i64 1, .int .i64 1000]] (by rfl) rfl rfl (by (try simp only [List.map_toArray, List.map_cons, List.map_nil]); first | done | rfl | (simp only [List.length_drop, List.length_take]; rfl)) ?_
                          with_reducible refine (swashplatelaw01_within.calls a2_3 1 1000 t1099 _ A172.out).mono ?_
                          rintro e w197 ⟨rfl, hb⟩
                          refine ⟨_, rfl, ?_⟩
                          have n0_ := Aside0.mk (blk_below (g := gb1080) (o := .cells #[.int .i64 a0_0, .int .i64 a0_1] 27 (0, 0)) (by (with_reducible repeat (first | refine blk_drewN ?_ _ | refine blk_drew ?_ | refine blk_alloc ?_ _)); exact BK1080.out) hb)
                          have n1_ := Aside0.mk (blk_below (g := gb1081) (o := .cells #[.int .i64 a1_0, .int .i64 a1_1] 27 (0, 0)) (by (with_reducible repeat (first | refine blk_drewN ?_ _ | refine blk_drew ?_ | refine blk_alloc ?_ _)); exact BK1081.out) hb)
                          have n2_ := Aside0.mk (blk_below (g := gb1082) (o := .cells #[.int .i64 a2_0, .int .i64 a2_1, .int .i64 a2_2, .int .i64 a2_3] 92 (0, 0)) (by (with_reducible repeat (first | refine blk_drewN ?_ _ | refine blk_drew ?_ | refine blk_alloc ?_ _)); exact BK1082.out) hb)
                          have n3_ := Aside0.mk (blk_below (g := gb1091) (o := .cells #[.int .i64 t1088, .int .i64 t1089] 27 (0, 0)) (by (with_reducible repeat (first | refine blk_drewN ?_ _ | refine blk_drew ?_ | refine blk_alloc ?_ _)); exact BK1091.out) hb)
                          have n4_ := Aside0.mk (blk_below (g := gb1095) (o := .cells #[.int .i64 t1092, .int .i64 t1093] 27 (0, 0)) (by (with_reducible repeat (first | refine blk_drewN ?_ _ | refine blk_drew ?_ | refine blk_alloc ?_ _)); exact BK1095.out) hb)
                          have n5_ := Aside0.mk (below_step (by repeat (first | (with_reducible first | exact HB.out | apply below_alloc | apply pw_below_drewN | apply below_drew1 | refine below_set ?_ GE1080.out | refine below_set ?_ GE1081.out | refine below_set ?_ GE1082.out | refine below_set ?_ GE1091.out | refine below_set ?_ GE1095.out) | exact HB.out)) hb)
                          clear BK1080
                          clear BK1081
                          clear BK1082
                          clear BK1091
                          clear BK1095
                          clear HB
                          have BK1080 := n0_
                          have BK1081 := n1_
                          have BK1082 := n2_
                          have BK1091 := n3_
                          have BK1095 := n4_
                          have HB := n5_
                          clear n0_ n1_ n2_ n3_ n4_ n5_
                          (try clear hb)
                          (try clear hb2)
                          (try clear hk)
                          (try clear hi)
                          refine hK.out _ _ ⟨(blk_cell BK1082.out 0).trans rfl, (blk_cell BK1082.out 1).trans rfl, (blk_cell BK1082.out 2).trans rfl, (blk_cell BK1082.out 3).trans rfl⟩ (fun hHeld => ?_)
                          clear hK K
                          refine norm_ (a' := ?_) ?_ ?_
                          rotate_left
                          · show Act.put _ (some 141) _ = _
                            simp only [Act.put, List.setIfInBounds_toArray, List.set_cons_zero, List.set_cons_succ, i64_w, i32_w]
                            rfl
                          refine pure_ (i := 8) (N := some 13) (v := ?_) (a' := ?_) #[true, true, true, true, true, true, true, true, true, false] rfl rfl (any_of HT_.out (by kernel_rfl)) (fun _ _ _ h => h) (Or.inl ⟨by rfl, ?_⟩) ?_ ?_
                          rotate_left
                          · intro w'
                            go_simp
                            with_reducible rfl
                          rotate_left
                          · simp only [Act.put, List.setIfInBounds_toArray, List.set_cons_zero, List.set_cons_succ, i64_w, i32_w]
                            rfl
                          refine pure_ (i := 9) (N := some 14) (v := ?_) (a' := ?_) #[true, true, true, true, true, true, true, true, true, true] rfl rfl (any_of HT_.out (by kernel_rfl)) (fun _ _ _ h => h) (Or.inl ⟨by rfl, ?_⟩) ?_ ?_
                          rotate_left
                          · intro w'
                            go_simp
                            with_reducible rfl
                          rotate_left
                          · simp only [Act.put, List.setIfInBounds_toArray, List.set_cons_zero, List.set_cons_succ, i64_w, i32_w]
                            rfl
                          refine done_ (done_of HT_.out (by kernel_rfl)) ?_
                          have hnb198 := NB1080_1081.out
                          have hnc198 := NB1081_1080.out
                          have hnb199 := NB1080_1082.out
                          have hnc199 := NB1082_1080.out
                          have hnb200 := NB1080_1091.out
                          have hnc200 := NB1091_1080.out
                          have hnb201 := NB1080_1095.out
                          have hnc201 := NB1095_1080.out
                          have hcz202_0 : w197.cell? ⟨gb1080, 0, none⟩ = some (.int .i64 a0_0) := (blk_cell BK1080.out 0).trans rfl
                          have hcz202_1 : w197.cell? ⟨gb1080, 1, none⟩ = some (.int .i64 a0_1) := (blk_cell BK1080.out 1).trans rfl
                          have hfz202_0 := blk_frozen BK1080.out 0
                          have hfz202_1 := blk_frozen BK1080.out 1
                          try go_wp2_with (first | ((with_reducible refine gate_callee (f := 57) rfl ?_); refine goesL_ (some 146) rfl rfl Try.func57 (by kernel_rfl) rfl #[.agg #[.int .i64 a0_0, .int .i64 a0_1], .int .i64 t1098, .int .i64 t1099] rfl (by (try simp only [List.map_toArray, List.map_cons, List.map_nil]); first | done | rfl | (simp only [List.length_drop, List.length_take]; rfl)) ?_; (with_reducible refine (spans_Part.calls kj104 a0_0 a0_1 t1098 t1099 t1100 t1101 t1102 _ A173.out).mono ?_); rintro e w203 ⟨rfl, hb⟩; refine ⟨_, rfl, ?_⟩; have n0_ := Aside0.mk (blk_below (g := gb1080) (o := .cells #[.int .i64 a0_0, .int .i64 a0_1] 27 (0, 0)) (by (with_reducible repeat (first | refine blk_drewN ?_ _ | refine blk_drew ?_ | refine blk_alloc ?_ _)); exact BK1080.out) hb); have n1_ := Aside0.mk (blk_below (g := gb1081) (o := .cells #[.int .i64 a1_0, .int .i64 a1_1] 27 (0, 0)) (by (with_reducible repeat (first | refine blk_drewN ?_ _ | refine blk_drew ?_ | refine blk_alloc ?_ _)); exact BK1081.out) hb); have n2_ := Aside0.mk (blk_below (g := gb1082) (o := .cells #[.int .i64 a2_0, .int .i64 a2_1, .int .i64 a2_2, .int .i64 a2_3] 92 (0, 0)) (by (with_reducible repeat (first | refine blk_drewN ?_ _ | refine blk_drew ?_ | refine blk_alloc ?_ _)); exact BK1082.out) hb); have n3_ := Aside0.mk (blk_below (g := gb1091) (o := .cells #[.int .i64 t1088, .int .i64 t1089] 27 (0, 0)) (by (with_reducible repeat (first | refine blk_drewN ?_ _ | refine blk_drew ?_ | refine blk_alloc ?_ _)); exact BK1091.out) hb); have n4_ := Aside0.mk (blk_below (g := gb1095) (o := .cells #[.int .i64 t1092, .int .i64 t1093] 27 (0, 0)) (by (with_reducible repeat (first | refine blk_drewN ?_ _ | refine blk_drew ?_ | refine blk_alloc ?_ _)); exact BK1095.out) hb); have n5_ := Aside0.mk (below_step (by repeat (first | (with_reducible first | exact HB.out | apply below_alloc | apply pw_below_drewN | apply below_drew1 | refine below_set ?_ GE1080.out | refine below_set ?_ GE1081.out | refine below_set ?_ GE1082.out | refine below_set ?_ GE1091.out | refine below_set ?_ GE1095.out) | exact HB.out)) hb); clear BK1080; clear BK1081; clear BK1082; clear BK1091; clear BK1095; clear HB; have BK1080 := n0_; have BK1081 := n1_; have BK1082 := n2_; have BK1091 := n3_; have BK1095 := n4_; have HB := n5_; clear n0_ n1_ n2_ n3_ n4_ n5_; (try clear hb); (try clear hb2); (try clear hk); (try clear hi)) | ((with_reducible refine gate_dst (N := 15) rfl ?_); refine box_event ?hg (N := 15) ?hd (cs := #[.int .i64 0, .int .i64 0]) (t := 27) ?hr ?_; (case hd => rfl); (case hg => rfl); (case hr => first | (go_simp; done) | (go_simp; rfl)); intro gb1103 hg w204 hbox hb; have n0_ := Aside0.mk (blk_below (g := gb1080) (o := .cells #[.int .i64 a0_0, .int .i64 a0_1] 27 (0, 0)) (by (with_reducible repeat (first | refine blk_drewN ?_ _ | refine blk_drew ?_ | refine blk_alloc ?_ _)); exact BK1080.out) hb); have n1_ := Aside0.mk (blk_below (g := gb1081) (o := .cells #[.int .i64 a1_0, .int .i64 a1_1] 27 (0, 0)) (by (with_reducible repeat (first | refine blk_drewN ?_ _ | refine blk_drew ?_ | refine blk_alloc ?_ _)); exact BK1081.out) hb); have n2_ := Aside0.mk (blk_below (g := gb1082) (o := .cells #[.int .i64 a2_0, .int .i64 a2_1, .int .i64 a2_2, .int .i64 a2_3] 92 (0, 0)) (by (with_reducible repeat (first | refine blk_drewN ?_ _ | refine blk_drew ?_ | refine blk_alloc ?_ _)); exact BK1082.out) hb); have n3_ := Aside0.mk (blk_below (g := gb1091) (o := .cells #[.int .i64 t1088, .int .i64 t1089] 27 (0, 0)) (by (with_reducible repeat (first | refine blk_drewN ?_ _ | refine blk_drew ?_ | refine blk_alloc ?_ _)); exact BK1091.out) hb); have n4_ := Aside0.mk (blk_below (g := gb1095) (o := .cells #[.int .i64 t1092, .int .i64 t1093] 27 (0, 0)) (by (with_reducible repeat (first | refine blk_drewN ?_ _ | refine blk_drew ?_ | refine blk_alloc ?_ _)); exact BK1095.out) hb); have n5_ := Aside0.mk (below_step (by repeat (first | (with_reducible first | exact HB.out | apply below_alloc | apply pw_below_drewN | apply below_drew1 | refine below_set ?_ GE1080.out | refine below_set ?_ GE1081.out | refine below_set ?_ GE1082.out | refine below_set ?_ GE1091.out | refine below_set ?_ GE1095.out) | exact HB.out)) hb); have n6_ := Aside0.mk (hbox); have n7_ := Aside0.mk ((by rw [hg]; exact (below_size (by repeat (first | (with_reducible first | exact HB.out | apply below_alloc | apply pw_below_drewN | apply below_drew1 | refine below_set ?_ GE1080.out | refine below_set ?_ GE1081.out | refine below_set ?_ GE1082.out | refine below_set ?_ GE1091.out | refine below_set ?_ GE1095.out) | exact HB.out))) : w.heap.size ≤ gb1103)); have n8_ := Aside0.mk ((by rw [hg]; exact (below_size (by repeat (first | (with_reducible first | exact HB.out | apply below_alloc | apply pw_below_drewN | apply below_drew1 | refine below_set ?_ GE1080.out | refine below_set ?_ GE1081.out | refine below_set ?_ GE1082.out | refine below_set ?_ GE1091.out | refine below_set ?_ GE1095.out) | exact HB.out))) : w.heap.size ≤ gb1103)); have n9_ := Aside0.mk ((by rw [hg]; exact Nat.ne_of_lt (blk_lt (g := gb1080) (o := .cells #[.int .i64 a0_0, .int .i64 a0_1] 27 (0, 0)) (by (with_reducible repeat (first | refine blk_drewN ?_ _ | refine blk_drew ?_ | refine blk_alloc ?_ _)); exact BK1080.out)) : gb1080 ≠ gb1103)); have n10_ := Aside0.mk ((by rw [hg]; exact Nat.ne_of_gt (blk_lt (g := gb1080) (o := .cells #[.int .i64 a0_0, .int .i64 a0_1] 27 (0, 0)) (by (with_reducible repeat (first | refine blk_drewN ?_ _ | refine blk_drew ?_ | refine blk_alloc ?_ _)); exact BK1080.out)) : gb1103 ≠ gb1080)); have n11_ := Aside0.mk ((by rw [hg]; exact Nat.ne_of_lt (blk_lt (g := gb1081) (o := .cells #[.int .i64 a1_0, .int .i64 a1_1] 27 (0, 0)) (by (with_reducible repeat (first | refine blk_drewN ?_ _ | refine blk_drew ?_ | refine blk_alloc ?_ _)); exact BK1081.out)) : gb1081 ≠ gb1103)); have n12_ := Aside0.mk ((by rw [hg]; exact Nat.ne_of_gt (blk_lt (g := gb1081) (o := .cells #[.int .i64 a1_0, .int .i64 a1_1] 27 (0, 0)) (by (with_reducible repeat (first | refine blk_drewN ?_ _ | refine blk_drew ?_ | refine blk_alloc ?_ _)); exact BK1081.out)) : gb1103 ≠ gb1081)); have n13_ := Aside0.mk ((by rw [hg]; exact Nat.ne_of_lt (blk_lt (g := gb1082) (o := .cells #[.int .i64 a2_0, .int .i64 a2_1, .int .i64 a2_2, .int .i64 a2_3] 92 (0, 0)) (by (with_reducible repeat (first | refine blk_drewN ?_ _ | refine blk_drew ?_ | refine blk_alloc ?_ _)); exact BK1082.out)) : gb1082 ≠ gb1103)); have n14_ := Aside0.mk ((by rw [hg]; exact Nat.ne_of_gt (blk_lt (g := gb1082) (o := .cells #[.int .i64 a2_0, .int .i64 a2_1, .int .i64 a2_2, .int .i64 a2_3] 92 (0, 0)) (by (with_reducible repeat (first | refine blk_drewN ?_ _ | refine blk_drew ?_ | refine blk_alloc ?_ _)); exact BK1082.out)) : gb1103 ≠ gb1082)); have n15_ := Aside0.mk ((by rw [hg]; exact Nat.ne_of_lt (blk_lt (g := gb1091) (o := .cells #[.int .i64 t1088, .int .i64 t1089] 27 (0, 0)) (by (with_reducible repeat (first | refine blk_drewN ?_ _ | refine blk_drew ?_ | refine blk_alloc ?_ _)); exact BK1091.out)) : gb1091 ≠ gb1103)); have n16_ := Aside0.mk ((by rw [hg]; exact Nat.ne_of_gt (blk_lt (g := gb1091) (o := .cells #[.int .i64 t1088, .int .i64 t1089] 27 (0, 0)) (by (with_reducible repeat (first | refine blk_drewN ?_ _ | refine blk_drew ?_ | refine blk_alloc ?_ _)); exact BK1091.out)) : gb1103 ≠ gb1091)); have n17_ := Aside0.mk ((by rw [hg]; exact Nat.ne_of_lt (blk_lt (g := gb1095) (o := .cells #[.int .i64 t1092, .int .i64 t1093] 27 (0, 0)) (by (with_reducible repeat (first | refine blk_drewN ?_ _ | refine blk_drew ?_ | refine blk_alloc ?_ _)); exact BK1095.out)) : gb1095 ≠ gb1103)); have n18_ := Aside0.mk ((by rw [hg]; exact Nat.ne_of_gt (blk_lt (g := gb1095) (o := .cells #[.int .i64 t1092, .int .i64 t1093] 27 (0, 0)) (by (with_reducible repeat (first | refine blk_drewN ?_ _ | refine blk_drew ?_ | refine blk_alloc ?_ _)); exact BK1095.out)) : gb1103 ≠ gb1095)); clear BK1080; clear BK1081; clear BK1082; clear BK1091; clear BK1095; clear HB; have BK1080 := n0_; have BK1081 := n1_; have BK1082 := n2_; have BK1091 := n3_; have BK1095 := n4_; have HB := n5_; have BK1103 := n6_; have GW1103 := n7_; have GE1103 := n8_; have NB1080_1103 := n9_; have NB1103_1080 := n10_; have NB1081_1103 := n11_; have NB1103_1081 := n12_; have NB1082_1103 := n13_; have NB1103_1082 := n14_; have NB1091_1103 := n15_; have NB1103_1091 := n16_; have NB1095_1103 := n17_; have NB1103_1095 := n18_; clear n0_ n1_ n2_ n3_ n4_ n5_ n6_ n7_ n8_ n9_ n10_ n11_ n12_ n13_ n14_ n15_ n16_ n17_ n18_; clear hb hbox hg; have hnb205 := NB1103_1080.out; have hnc205 := NB1080_1103.out; have hnb206 := NB1103_1081.out; have hnc206 := NB1081_1103.out; have hnb207 := NB1103_1082.out; have hnc207 := NB1082_1103.out; have hnb208 := NB1103_1091.out; have hnc208 := NB1091_1103.out; have hnb209 := NB1103_1095.out; have hnc209 := NB1095_1103.out; have hcz210_0 : w204.cell? ⟨gb1103, 0, none⟩ = some (.int .i64 0) := (blk_cell BK1103.out 0).trans rfl; have hcz210_1 : w204.cell? ⟨gb1103, 1, none⟩ = some (.int .i64 0) := (blk_cell BK1103.out 1).trans rfl; have hfz210_0 := blk_frozen BK1103.out 0; have hfz210_1 := blk_frozen BK1103.out 1))
                          go_ret
                          exact ⟨by first | rfl | (simp [errW_none, errW_some] <;> rfl) | (simp [*, errW_none, errW_some] <;> rfl), by repeat (first | (with_reducible first | exact HB.out | apply below_alloc | apply pw_below_drewN | apply below_drew1 | refine below_set ?_ GE1080.out | refine below_set ?_ GE1081.out | refine below_set ?_ GE1082.out | refine below_set ?_ GE1091.out | refine below_set ?_ GE1095.out | refine below_set ?_ GE1103.out) | exact HB.out)⟩
                      · rw [if_neg c175] at H
                        have c175b0 : decide ((wrap64 (t1100 * t1099)) ≤ (wrap64 (t1086 * t1098))) = false := decide_eq_false c175
                        clear c175
                        obtain rfl := Option.some.inj H
                        try go_wp2
                        have n0_ := Aside0.mk (blk_drew BK1080.out)
                        have n1_ := Aside0.mk (blk_drew BK1081.out)
                        have n2_ := Aside0.mk (blk_drew BK1082.out)
                        have n3_ := Aside0.mk (blk_drew BK1091.out)
                        have n4_ := Aside0.mk (blk_drew BK1095.out)
                        have n5_ := Aside0.mk (below_drew1 HB.out)
                        clear BK1080
                        clear BK1081
                        clear BK1082
                        clear BK1091
                        clear BK1095
                        clear HB
                        have BK1080 := n0_
                        have BK1081 := n1_
                        have BK1082 := n2_
                        have BK1091 := n3_
                        have BK1095 := n4_
                        have HB := n5_
                        clear n0_ n1_ n2_ n3_ n4_ n5_
                        refine start_ (n := 10) (S := fun w' => w'.cell? ⟨gb1082, 0, none⟩ = some (.int .i64 a2_0) ∧ w'.cell? ⟨gb1082, 1, none⟩ = some (.int .i64 a2_1) ∧ w'.cell? ⟨gb1082, 2, none⟩ = some (.int .i64 a2_2) ∧ w'.cell? ⟨gb1082, 3, none⟩ = some (.int .i64 a2_3)) (ds := []) #[false, false, false, false, false, false, false, false, false, false] (by kernel_rfl) rfl rfl ⟨(blk_cell BK1082.out 0).trans rfl, (blk_cell BK1082.out 1).trans rfl, (blk_cell BK1082.out 2).trans rfl, (blk_cell BK1082.out 3).trans rfl⟩ (fun hHeld => ?_); refine with_tabW swashplatelaw01_SpansEach.tab10 swashplatelaw01_SpansEach.bits10 (fun HT_ HW_ => ?_)
                        generalize wc.drew = w211 at BK1080 BK1081 BK1082 BK1091 BK1095 HB hHeld ⊢
                        refine pure_ (i := 0) (N := some 134) (v := ?_) (a' := ?_) #[true, false, false, false, false, false, false, false, false, false] rfl rfl (any_of HT_.out (by kernel_rfl)) (fun _ _ _ h => h) (Or.inl ⟨by rfl, ?_⟩) ?_ ?_
                        rotate_left
                        · intro w'
                          go_simp
                          with_reducible rfl
                        rotate_left
                        · simp only [Act.put, List.setIfInBounds_toArray, List.set_cons_zero, List.set_cons_succ, i64_w, i32_w]
                          rfl
                        refine pure_ (i := 2) (N := some 136) (v := ?_) (a' := ?_) #[true, false, true, false, false, false, false, false, false, false] rfl rfl (any_of HT_.out (by kernel_rfl)) (fun _ _ _ h => h) (Or.inl ⟨by rfl, ?_⟩) ?_ ?_
                        rotate_left
                        · intro w'
                          go_simp
                          with_reducible rfl
                        rotate_left
                        · simp only [Act.put, List.setIfInBounds_toArray, List.set_cons_zero, List.set_cons_succ, i64_w, i32_w]
                          rfl
                        refine pure_ (i := 4) (N := some 138) (v := ?_) (a' := ?_) #[true, false, true, false, true, false, false, false, false, false] rfl rfl (any_of HT_.out (by kernel_rfl)) (fun _ _ _ h => h) (Or.inl ⟨by rfl, ?_⟩) ?_ ?_
                        rotate_left
                        · intro w'
                          go_simp
                          with_reducible rfl
                        rotate_left
                        · simp only [Act.put, List.setIfInBounds_toArray, List.set_cons_zero, List.set_cons_succ, i64_w, i32_w]
                          rfl
                        refine pure_ (i := 6) (N := some 140) (v := ?_) (a' := ?_) #[true, false, true, false, true, false, true, false, false, false] rfl rfl (any_of HT_.out (by kernel_rfl)) (fun _ _ _ h => h) (Or.inl ⟨by rfl, ?_⟩) ?_ ?_
                        rotate_left
                        · intro w'
                          go_simp
                          with_reducible rfl
                        rotate_left
                        · simp only [Act.put, List.setIfInBounds_toArray, List.set_cons_zero, List.set_cons_succ, i64_w, i32_w]
                          rfl
                        refine take_ (i := 1) (N := some 135) (v := ?_) (a' := ?_) #[true, true, true, false, true, false, true, false, false, false] rfl rfl (take_ofW HT_.out HW_.out (by kernel_rfl)) (fun _ _ _ h => h) (Or.inl ⟨by rfl, ?_⟩) hHeld ?_ ?_
                        rotate_left
                        · rintro w' ⟨s0, s1, s2, s3⟩
                          go_simp
                          with_reducible rfl
                        rotate_left
                        · simp only [Act.put, List.setIfInBounds_toArray, List.set_cons_zero, List.set_cons_succ, i64_w, i32_w]
                          rfl
                        refine take_ (i := 5) (N := some 139) (v := ?_) (a' := ?_) #[true, true, true, false, true, true, true, false, false, false] rfl rfl (take_ofW HT_.out HW_.out (by kernel_rfl)) (fun _ _ _ h => h) (Or.inl ⟨by rfl, ?_⟩) hHeld ?_ ?_
                        rotate_left
                        · rintro w' ⟨s0, s1, s2, s3⟩
                          go_simp
                          with_reducible rfl
                        rotate_left
                        · simp only [Act.put, List.setIfInBounds_toArray, List.set_cons_zero, List.set_cons_succ, i64_w, i32_w]
                          rfl
                        refine one_ (i := 3) (N := some 137) #[true, true, true, true, true, true, true, false, false, false] rfl rfl (one_of HT_.out (by kernel_rfl)) (by decide) (fun K hK => ?_)
                        refine goes_ Try.func53 (by kernel_rfl) rfl #[.int .i64 a2_2, .agg #[.int .i64 0, .int .i64 1000]] (by rfl) rfl rfl (by (try simp only [List.map_toArray, List.map_cons, List.map_nil]); first | done | rfl | (simp only [List.length_drop, List.length_take]; rfl)) ?_
                        with_reducible refine (swashplatelaw01_within.calls a2_2 0 1000 t1098 _ A171.out).mono ?_
                        rintro e w212 ⟨rfl, hb⟩
                        refine ⟨_, rfl, ?_⟩
                        have n0_ := Aside0.mk (blk_below (g := gb1080) (o := .cells #[.int .i64 a0_0, .int .i64 a0_1] 27 (0, 0)) (by (with_reducible repeat (first | refine blk_drewN ?_ _ | refine blk_drew ?_ | refine blk_alloc ?_ _)); exact BK1080.out) hb)
                        have n1_ := Aside0.mk (blk_below (g := gb1081) (o := .cells #[.int .i64 a1_0, .int .i64 a1_1] 27 (0, 0)) (by (with_reducible repeat (first | refine blk_drewN ?_ _ | refine blk_drew ?_ | refine blk_alloc ?_ _)); exact BK1081.out) hb)
                        have n2_ := Aside0.mk (blk_below (g := gb1082) (o := .cells #[.int .i64 a2_0, .int .i64 a2_1, .int .i64 a2_2, .int .i64 a2_3] 92 (0, 0)) (by (with_reducible repeat (first | refine blk_drewN ?_ _ | refine blk_drew ?_ | refine blk_alloc ?_ _)); exact BK1082.out) hb)
                        have n3_ := Aside0.mk (blk_below (g := gb1091) (o := .cells #[.int .i64 t1088, .int .i64 t1089] 27 (0, 0)) (by (with_reducible repeat (first | refine blk_drewN ?_ _ | refine blk_drew ?_ | refine blk_alloc ?_ _)); exact BK1091.out) hb)
                        have n4_ := Aside0.mk (blk_below (g := gb1095) (o := .cells #[.int .i64 t1092, .int .i64 t1093] 27 (0, 0)) (by (with_reducible repeat (first | refine blk_drewN ?_ _ | refine blk_drew ?_ | refine blk_alloc ?_ _)); exact BK1095.out) hb)
                        have n5_ := Aside0.mk (below_step (by repeat (first | (with_reducible first | exact HB.out | apply below_alloc | apply pw_below_drewN | apply below_drew1 | refine below_set ?_ GE1080.out | refine below_set ?_ GE1081.out | refine below_set ?_ GE1082.out | refine below_set ?_ GE1091.out | refine below_set ?_ GE1095.out) | exact HB.out)) hb)
                        clear BK1080
                        clear BK1081
                        clear BK1082
                        clear BK1091
                        clear BK1095
                        clear HB
                        have BK1080 := n0_
                        have BK1081 := n1_
                        have BK1082 := n2_
                        have BK1091 := n3_
                        have BK1095 := n4_
                        have HB := n5_
                        clear n0_ n1_ n2_ n3_ n4_ n5_
                        (try clear hb)
                        (try clear hb2)
                        (try clear hk)
                        (try clear hi)
                        refine hK.out _ _ ⟨(blk_cell BK1082.out 0).trans rfl, (blk_cell BK1082.out 1).trans rfl, (blk_cell BK1082.out 2).trans rfl, (blk_cell BK1082.out 3).trans rfl⟩ (fun hHeld => ?_)
                        clear hK K
                        refine norm_ (a' := ?_) ?_ ?_
                        rotate_left
                        · show Act.put _ (some 137) _ = _
                          simp only [Act.put, List.setIfInBounds_toArray, List.set_cons_zero, List.set_cons_succ, i64_w, i32_w]
                          rfl
                        refine one_ (i := 7) (N := some 141) #[true, true, true, true, true, true, true, true, false, false] rfl rfl (one_of HT_.out (by kernel_rfl)) (by decide) (fun K hK => ?_)
                        refine goes_ Try.func53 (by kernel_rfl) rfl #[.int .i64 a2_3, .agg #[.int .i64 1, .int .i64 1000]] (by rfl) rfl rfl (by (try simp only [List.map_toArray, List.map_cons, List.map_nil]); first | done | rfl | (simp only [List.length_drop, List.length_take]; rfl)) ?_
                        with_reducible refine (swashplatelaw01_within.calls a2_3 1 1000 t1099 _ A172.out).mono ?_
                        rintro e w213 ⟨rfl, hb⟩
                        refine ⟨_, rfl, ?_⟩
                        have n0_ := Aside0.mk (blk_below (g := gb1080) (o := .cells #[.int .i64 a0_0, .int .i64 a0_1] 27 (0, 0)) (by (with_reducible repeat (first | refine blk_drewN ?_ _ | refine blk_drew ?_ | refine blk_alloc ?_ _)); exact BK1080.out) hb)
                        have n1_ := Aside0.mk (blk_below (g := gb1081) (o := .cells #[.int .i64 a1_0, .int .i64 a1_1] 27 (0, 0)) (by (with_reducible repeat (first | refine blk_drewN ?_ _ | refine blk_drew ?_ | refine blk_alloc ?_ _)); exact BK1081.out) hb)
                        have n2_ := Aside0.mk (blk_below (g := gb1082) (o := .cells #[.int .i64 a2_0, .int .i64 a2_1, .int .i64 a2_2, .int .i64 a2_3] 92 (0, 0)) (by (with_reducible repeat (first | refine blk_drewN ?_ _ | refine blk_drew ?_ | refine blk_alloc ?_ _)); exact BK1082.out) hb)
                        have n3_ := Aside0.mk (blk_below (g := gb1091) (o := .cells #[.int .i64 t1088, .int .i64 t1089] 27 (0, 0)) (by (with_reducible repeat (first | refine blk_drewN ?_ _ | refine blk_drew ?_ | refine blk_alloc ?_ _)); exact BK1091.out) hb)
                        have n4_ := Aside0.mk (blk_below (g := gb1095) (o := .cells #[.int .i64 t1092, .int .i64 t1093] 27 (0, 0)) (by (with_reducible repeat (first | refine blk_drewN ?_ _ | refine blk_drew ?_ | refine blk_alloc ?_ _)); exact BK1095.out) hb)
                        have n5_ := Aside0.mk (below_step (by repeat (first | (with_reducible first | exact HB.out | apply below_alloc | apply pw_below_drewN | apply below_drew1 | refine below_set ?_ GE1080.out | refine below_set ?_ GE1081.out | refine below_set ?_ GE1082.out | refine below_set ?_ GE1091.out | refine below_set ?_ GE1095.out) | exact HB.out)) hb)
                        clear BK1080
                        clear BK1081
                        clear BK1082
                        clear BK1091
                        clear BK1095
                        clear HB
                        have BK1080 := n0_
                        have BK1081 := n1_
                        have BK1082 := n2_
                        have BK1091 := n3_
                        have BK1095 := n4_
                        have HB := n5_
                        clear n0_ n1_ n2_ n3_ n4_ n5_
                        (try clear hb)
                        (try clear hb2)
                        (try clear hk)
                        (try clear hi)
                        refine hK.out _ _ ⟨(blk_cell BK1082.out 0).trans rfl, (blk_cell BK1082.out 1).trans rfl, (blk_cell BK1082.out 2).trans rfl, (blk_cell BK1082.out 3).trans rfl⟩ (fun hHeld => ?_)
                        clear hK K
                        refine norm_ (a' := ?_) ?_ ?_
                        rotate_left
                        · show Act.put _ (some 141) _ = _
                          simp only [Act.put, List.setIfInBounds_toArray, List.set_cons_zero, List.set_cons_succ, i64_w, i32_w]
                          rfl
                        refine pure_ (i := 8) (N := some 13) (v := ?_) (a' := ?_) #[true, true, true, true, true, true, true, true, true, false] rfl rfl (any_of HT_.out (by kernel_rfl)) (fun _ _ _ h => h) (Or.inl ⟨by rfl, ?_⟩) ?_ ?_
                        rotate_left
                        · intro w'
                          go_simp
                          with_reducible rfl
                        rotate_left
                        · simp only [Act.put, List.setIfInBounds_toArray, List.set_cons_zero, List.set_cons_succ, i64_w, i32_w]
                          rfl
                        refine pure_ (i := 9) (N := some 14) (v := ?_) (a' := ?_) #[true, true, true, true, true, true, true, true, true, true] rfl rfl (any_of HT_.out (by kernel_rfl)) (fun _ _ _ h => h) (Or.inl ⟨by rfl, ?_⟩) ?_ ?_
                        rotate_left
                        · intro w'
                          go_simp
                          with_reducible rfl
                        rotate_left
                        · simp only [Act.put, List.setIfInBounds_toArray, List.set_cons_zero, List.set_cons_succ, i64_w, i32_w]
                          rfl
                        refine done_ (done_of HT_.out (by kernel_rfl)) ?_
                        have hnb214 := NB1080_1081.out
                        have hnc214 := NB1081_1080.out
                        have hnb215 := NB1080_1082.out
                        have hnc215 := NB1082_1080.out
                        have hnb216 := NB1080_1091.out
                        have hnc216 := NB1091_1080.out
                        have hnb217 := NB1080_1095.out
                        have hnc217 := NB1095_1080.out
                        have hcz218_0 : w213.cell? ⟨gb1080, 0, none⟩ = some (.int .i64 a0_0) := (blk_cell BK1080.out 0).trans rfl
                        have hcz218_1 : w213.cell? ⟨gb1080, 1, none⟩ = some (.int .i64 a0_1) := (blk_cell BK1080.out 1).trans rfl
                        have hfz218_0 := blk_frozen BK1080.out 0
                        have hfz218_1 := blk_frozen BK1080.out 1
                        try go_wp2_with (first | ((with_reducible refine gate_callee (f := 57) rfl ?_); refine goesL_ (some 146) rfl rfl Try.func57 (by kernel_rfl) rfl #[.agg #[.int .i64 a0_0, .int .i64 a0_1], .int .i64 t1098, .int .i64 t1099] rfl (by (try simp only [List.map_toArray, List.map_cons, List.map_nil]); first | done | rfl | (simp only [List.length_drop, List.length_take]; rfl)) ?_; (with_reducible refine (spans_Part.calls kj104 a0_0 a0_1 t1098 t1099 t1100 t1101 t1102 _ A173.out).mono ?_); rintro e w219 ⟨rfl, hb⟩; refine ⟨_, rfl, ?_⟩; have n0_ := Aside0.mk (blk_below (g := gb1080) (o := .cells #[.int .i64 a0_0, .int .i64 a0_1] 27 (0, 0)) (by (with_reducible repeat (first | refine blk_drewN ?_ _ | refine blk_drew ?_ | refine blk_alloc ?_ _)); exact BK1080.out) hb); have n1_ := Aside0.mk (blk_below (g := gb1081) (o := .cells #[.int .i64 a1_0, .int .i64 a1_1] 27 (0, 0)) (by (with_reducible repeat (first | refine blk_drewN ?_ _ | refine blk_drew ?_ | refine blk_alloc ?_ _)); exact BK1081.out) hb); have n2_ := Aside0.mk (blk_below (g := gb1082) (o := .cells #[.int .i64 a2_0, .int .i64 a2_1, .int .i64 a2_2, .int .i64 a2_3] 92 (0, 0)) (by (with_reducible repeat (first | refine blk_drewN ?_ _ | refine blk_drew ?_ | refine blk_alloc ?_ _)); exact BK1082.out) hb); have n3_ := Aside0.mk (blk_below (g := gb1091) (o := .cells #[.int .i64 t1088, .int .i64 t1089] 27 (0, 0)) (by (with_reducible repeat (first | refine blk_drewN ?_ _ | refine blk_drew ?_ | refine blk_alloc ?_ _)); exact BK1091.out) hb); have n4_ := Aside0.mk (blk_below (g := gb1095) (o := .cells #[.int .i64 t1092, .int .i64 t1093] 27 (0, 0)) (by (with_reducible repeat (first | refine blk_drewN ?_ _ | refine blk_drew ?_ | refine blk_alloc ?_ _)); exact BK1095.out) hb); have n5_ := Aside0.mk (below_step (by repeat (first | (with_reducible first | exact HB.out | apply below_alloc | apply pw_below_drewN | apply below_drew1 | refine below_set ?_ GE1080.out | refine below_set ?_ GE1081.out | refine below_set ?_ GE1082.out | refine below_set ?_ GE1091.out | refine below_set ?_ GE1095.out) | exact HB.out)) hb); clear BK1080; clear BK1081; clear BK1082; clear BK1091; clear BK1095; clear HB; have BK1080 := n0_; have BK1081 := n1_; have BK1082 := n2_; have BK1091 := n3_; have BK1095 := n4_; have HB := n5_; clear n0_ n1_ n2_ n3_ n4_ n5_; (try clear hb); (try clear hb2); (try clear hk); (try clear hi)) | ((with_reducible refine gate_dst (N := 15) rfl ?_); refine box_event ?hg (N := 15) ?hd (cs := #[.int .i64 0, .int .i64 0]) (t := 27) ?hr ?_; (case hd => rfl); (case hg => rfl); (case hr => first | (go_simp; done) | (go_simp; rfl)); intro gb1103 hg w220 hbox hb; have n0_ := Aside0.mk (blk_below (g := gb1080) (o := .cells #[.int .i64 a0_0, .int .i64 a0_1] 27 (0, 0)) (by (with_reducible repeat (first | refine blk_drewN ?_ _ | refine blk_drew ?_ | refine blk_alloc ?_ _)); exact BK1080.out) hb); have n1_ := Aside0.mk (blk_below (g := gb1081) (o := .cells #[.int .i64 a1_0, .int .i64 a1_1] 27 (0, 0)) (by (with_reducible repeat (first | refine blk_drewN ?_ _ | refine blk_drew ?_ | refine blk_alloc ?_ _)); exact BK1081.out) hb); have n2_ := Aside0.mk (blk_below (g := gb1082) (o := .cells #[.int .i64 a2_0, .int .i64 a2_1, .int .i64 a2_2, .int .i64 a2_3] 92 (0, 0)) (by (with_reducible repeat (first | refine blk_drewN ?_ _ | refine blk_drew ?_ | refine blk_alloc ?_ _)); exact BK1082.out) hb); have n3_ := Aside0.mk (blk_below (g := gb1091) (o := .cells #[.int .i64 t1088, .int .i64 t1089] 27 (0, 0)) (by (with_reducible repeat (first | refine blk_drewN ?_ _ | refine blk_drew ?_ | refine blk_alloc ?_ _)); exact BK1091.out) hb); have n4_ := Aside0.mk (blk_below (g := gb1095) (o := .cells #[.int .i64 t1092, .int .i64 t1093] 27 (0, 0)) (by (with_reducible repeat (first | refine blk_drewN ?_ _ | refine blk_drew ?_ | refine blk_alloc ?_ _)); exact BK1095.out) hb); have n5_ := Aside0.mk (below_step (by repeat (first | (with_reducible first | exact HB.out | apply below_alloc | apply pw_below_drewN | apply below_drew1 | refine below_set ?_ GE1080.out | refine below_set ?_ GE1081.out | refine below_set ?_ GE1082.out | refine below_set ?_ GE1091.out | refine below_set ?_ GE1095.out) | exact HB.out)) hb); have n6_ := Aside0.mk (hbox); have n7_ := Aside0.mk ((by rw [hg]; exact (below_size (by repeat (first | (with_reducible first | exact HB.out | apply below_alloc | apply pw_below_drewN | apply below_drew1 | refine below_set ?_ GE1080.out | refine below_set ?_ GE1081.out | refine below_set ?_ GE1082.out | refine below_set ?_ GE1091.out | refine below_set ?_ GE1095.out) | exact HB.out))) : w.heap.size ≤ gb1103)); have n8_ := Aside0.mk ((by rw [hg]; exact (below_size (by repeat (first | (with_reducible first | exact HB.out | apply below_alloc | apply pw_below_drewN | apply below_drew1 | refine below_set ?_ GE1080.out | refine below_set ?_ GE1081.out | refine below_set ?_ GE1082.out | refine below_set ?_ GE1091.out | refine below_set ?_ GE1095.out) | exact HB.out))) : w.heap.size ≤ gb1103)); have n9_ := Aside0.mk ((by rw [hg]; exact Nat.ne_of_lt (blk_lt (g := gb1080) (o := .cells #[.int .i64 a0_0, .int .i64 a0_1] 27 (0, 0)) (by (with_reducible repeat (first | refine blk_drewN ?_ _ | refine blk_drew ?_ | refine blk_alloc ?_ _)); exact BK1080.out)) : gb1080 ≠ gb1103)); have n10_ := Aside0.mk ((by rw [hg]; exact Nat.ne_of_gt (blk_lt (g := gb1080) (o := .cells #[.int .i64 a0_0, .int .i64 a0_1] 27 (0, 0)) (by (with_reducible repeat (first | refine blk_drewN ?_ _ | refine blk_drew ?_ | refine blk_alloc ?_ _)); exact BK1080.out)) : gb1103 ≠ gb1080)); have n11_ := Aside0.mk ((by rw [hg]; exact Nat.ne_of_lt (blk_lt (g := gb1081) (o := .cells #[.int .i64 a1_0, .int .i64 a1_1] 27 (0, 0)) (by (with_reducible repeat (first | refine blk_drewN ?_ _ | refine blk_drew ?_ | refine blk_alloc ?_ _)); exact BK1081.out)) : gb1081 ≠ gb1103)); have n12_ := Aside0.mk ((by rw [hg]; exact Nat.ne_of_gt (blk_lt (g := gb1081) (o := .cells #[.int .i64 a1_0, .int .i64 a1_1] 27 (0, 0)) (by (with_reducible repeat (first | refine blk_drewN ?_ _ | refine blk_drew ?_ | refine blk_alloc ?_ _)); exact BK1081.out)) : gb1103 ≠ gb1081)); have n13_ := Aside0.mk ((by rw [hg]; exact Nat.ne_of_lt (blk_lt (g := gb1082) (o := .cells #[.int .i64 a2_0, .int .i64 a2_1, .int .i64 a2_2, .int .i64 a2_3] 92 (0, 0)) (by (with_reducible repeat (first | refine blk_drewN ?_ _ | refine blk_drew ?_ | refine blk_alloc ?_ _)); exact BK1082.out)) : gb1082 ≠ gb1103)); have n14_ := Aside0.mk ((by rw [hg]; exact Nat.ne_of_gt (blk_lt (g := gb1082) (o := .cells #[.int .i64 a2_0, .int .i64 a2_1, .int .i64 a2_2, .int .i64 a2_3] 92 (0, 0)) (by (with_reducible repeat (first | refine blk_drewN ?_ _ | refine blk_drew ?_ | refine blk_alloc ?_ _)); exact BK1082.out)) : gb1103 ≠ gb1082)); have n15_ := Aside0.mk ((by rw [hg]; exact Nat.ne_of_lt (blk_lt (g := gb1091) (o := .cells #[.int .i64 t1088, .int .i64 t1089] 27 (0, 0)) (by (with_reducible repeat (first | refine blk_drewN ?_ _ | refine blk_drew ?_ | refine blk_alloc ?_ _)); exact BK1091.out)) : gb1091 ≠ gb1103)); have n16_ := Aside0.mk ((by rw [hg]; exact Nat.ne_of_gt (blk_lt (g := gb1091) (o := .cells #[.int .i64 t1088, .int .i64 t1089] 27 (0, 0)) (by (with_reducible repeat (first | refine blk_drewN ?_ _ | refine blk_drew ?_ | refine blk_alloc ?_ _)); exact BK1091.out)) : gb1103 ≠ gb1091)); have n17_ := Aside0.mk ((by rw [hg]; exact Nat.ne_of_lt (blk_lt (g := gb1095) (o := .cells #[.int .i64 t1092, .int .i64 t1093] 27 (0, 0)) (by (with_reducible repeat (first | refine blk_drewN ?_ _ | refine blk_drew ?_ | refine blk_alloc ?_ _)); exact BK1095.out)) : gb1095 ≠ gb1103)); have n18_ := Aside0.mk ((by rw [hg]; exact Nat.ne_of_gt (blk_lt (g := gb1095) (o := .cells #[.int .i64 t1092, .int .i64 t1093] 27 (0, 0)) (by (with_reducible repeat (first | refine blk_drewN ?_ _ | refine blk_drew ?_ | refine blk_alloc ?_ _)); exact BK1095.out)) : gb1103 ≠ gb1095)); clear BK1080; clear BK1081; clear BK1082; clear BK1091; clear BK1095; clear HB; have BK1080 := n0_; have BK1081 := n1_; have BK1082 := n2_; have BK1091 := n3_; have BK1095 := n4_; have HB := n5_; have BK1103 := n6_; have GW1103 := n7_; have GE1103 := n8_; have NB1080_1103 := n9_; have NB1103_1080 := n10_; have NB1081_1103 := n11_; have NB1103_1081 := n12_; have NB1082_1103 := n13_; have NB1103_1082 := n14_; have NB1091_1103 := n15_; have NB1103_1091 := n16_; have NB1095_1103 := n17_; have NB1103_1095 := n18_; clear n0_ n1_ n2_ n3_ n4_ n5_ n6_ n7_ n8_ n9_ n10_ n11_ n12_ n13_ n14_ n15_ n16_ n17_ n18_; clear hb hbox hg; have hnb221 := NB1103_1080.out; have hnc221 := NB1080_1103.out; have hnb222 := NB1103_1081.out; have hnc222 := NB1081_1103.out; have hnb223 := NB1103_1082.out; have hnc223 := NB1082_1103.out; have hnb224 := NB1103_1091.out; have hnc224 := NB1091_1103.out; have hnb225 := NB1103_1095.out; have hnc225 := NB1095_1103.out; have hcz226_0 : w220.cell? ⟨gb1103, 0, none⟩ = some (.int .i64 0) := (blk_cell BK1103.out 0).trans rfl; have hcz226_1 : w220.cell? ⟨gb1103, 1, none⟩ = some (.int .i64 0) := (blk_cell BK1103.out 1).trans rfl; have hfz226_0 := blk_frozen BK1103.out 0; have hfz226_1 := blk_frozen BK1103.out 1))
                        go_ret
                        exact ⟨by first | rfl | (simp [errW_none, errW_some] <;> rfl) | (simp [*, errW_none, errW_some] <;> rfl), by repeat (first | (with_reducible first | exact HB.out | apply below_alloc | apply pw_below_drewN | apply below_drew1 | refine below_set ?_ GE1080.out | refine below_set ?_ GE1081.out | refine below_set ?_ GE1082.out | refine below_set ?_ GE1091.out | refine below_set ?_ GE1095.out | refine below_set ?_ GE1103.out) | exact HB.out)⟩
                    · rw [if_neg c174] at H
                      have c174b0 : (t1102 == 0) = false := beq_eq_false_iff_ne.mpr c174
                      have c174b1 : (t1102 != 0) = true := bne_iff_ne.mpr c174
                      by_cases c227 : t1102 = 2
                      · rw [if_pos c227] at H
                        have c227b0 : (t1102 == 2) = true := beq_iff_eq.mpr c227
                        have c227b1 : (t1102 != 2) = false := bne_eq_false_iff_eq.mpr c227
                        clear c227
                        replace H := Option.bind_eq_some_iff.mp H
                        obtain ⟨t1105, A2280, H⟩ := H
                        replace H : (some t1105) = some r := H
                        have A228 := Aside0.mk A2280
                        clear A2280
                        obtain rfl := Option.some.inj H
                        try go_wp2
                        have n0_ := Aside0.mk (blk_drew BK1080.out)
                        have n1_ := Aside0.mk (blk_drew BK1081.out)
                        have n2_ := Aside0.mk (blk_drew BK1082.out)
                        have n3_ := Aside0.mk (blk_drew BK1091.out)
                        have n4_ := Aside0.mk (blk_drew BK1095.out)
                        have n5_ := Aside0.mk (below_drew1 HB.out)
                        clear BK1080
                        clear BK1081
                        clear BK1082
                        clear BK1091
                        clear BK1095
                        clear HB
                        have BK1080 := n0_
                        have BK1081 := n1_
                        have BK1082 := n2_
                        have BK1091 := n3_
                        have BK1095 := n4_
                        have HB := n5_
                        clear n0_ n1_ n2_ n3_ n4_ n5_
                        refine start_ (n := 10) (S := fun w' => w'.cell? ⟨gb1082, 0, none⟩ = some (.int .i64 a2_0) ∧ w'.cell? ⟨gb1082, 1, none⟩ = some (.int .i64 a2_1) ∧ w'.cell? ⟨gb1082, 2, none⟩ = some (.int .i64 a2_2) ∧ w'.cell? ⟨gb1082, 3, none⟩ = some (.int .i64 a2_3)) (ds := []) #[false, false, false, false, false, false, false, false, false, false] (by kernel_rfl) rfl rfl ⟨(blk_cell BK1082.out 0).trans rfl, (blk_cell BK1082.out 1).trans rfl, (blk_cell BK1082.out 2).trans rfl, (blk_cell BK1082.out 3).trans rfl⟩ (fun hHeld => ?_); refine with_tabW swashplatelaw01_SpansEach.tab10 swashplatelaw01_SpansEach.bits10 (fun HT_ HW_ => ?_)
                        generalize wc.drew = w229 at BK1080 BK1081 BK1082 BK1091 BK1095 HB hHeld ⊢
                        refine pure_ (i := 0) (N := some 134) (v := ?_) (a' := ?_) #[true, false, false, false, false, false, false, false, false, false] rfl rfl (any_of HT_.out (by kernel_rfl)) (fun _ _ _ h => h) (Or.inl ⟨by rfl, ?_⟩) ?_ ?_
                        rotate_left
                        · intro w'
                          go_simp
                          with_reducible rfl
                        rotate_left
                        · simp only [Act.put, List.setIfInBounds_toArray, List.set_cons_zero, List.set_cons_succ, i64_w, i32_w]
                          rfl
                        refine pure_ (i := 2) (N := some 136) (v := ?_) (a' := ?_) #[true, false, true, false, false, false, false, false, false, false] rfl rfl (any_of HT_.out (by kernel_rfl)) (fun _ _ _ h => h) (Or.inl ⟨by rfl, ?_⟩) ?_ ?_
                        rotate_left
                        · intro w'
                          go_simp
                          with_reducible rfl
                        rotate_left
                        · simp only [Act.put, List.setIfInBounds_toArray, List.set_cons_zero, List.set_cons_succ, i64_w, i32_w]
                          rfl
                        refine pure_ (i := 4) (N := some 138) (v := ?_) (a' := ?_) #[true, false, true, false, true, false, false, false, false, false] rfl rfl (any_of HT_.out (by kernel_rfl)) (fun _ _ _ h => h) (Or.inl ⟨by rfl, ?_⟩) ?_ ?_
                        rotate_left
                        · intro w'
                          go_simp
                          with_reducible rfl
                        rotate_left
                        · simp only [Act.put, List.setIfInBounds_toArray, List.set_cons_zero, List.set_cons_succ, i64_w, i32_w]
                          rfl
                        refine pure_ (i := 6) (N := some 140) (v := ?_) (a' := ?_) #[true, false, true, false, true, false, true, false, false, false] rfl rfl (any_of HT_.out (by kernel_rfl)) (fun _ _ _ h => h) (Or.inl ⟨by rfl, ?_⟩) ?_ ?_
                        rotate_left
                        · intro w'
                          go_simp
                          with_reducible rfl
                        rotate_left
                        · simp only [Act.put, List.setIfInBounds_toArray, List.set_cons_zero, List.set_cons_succ, i64_w, i32_w]
                          rfl
                        refine take_ (i := 1) (N := some 135) (v := ?_) (a' := ?_) #[true, true, true, false, true, false, true, false, false, false] rfl rfl (take_ofW HT_.out HW_.out (by kernel_rfl)) (fun _ _ _ h => h) (Or.inl ⟨by rfl, ?_⟩) hHeld ?_ ?_
                        rotate_left
                        · rintro w' ⟨s0, s1, s2, s3⟩
                          go_simp
                          with_reducible rfl
                        rotate_left
                        · simp only [Act.put, List.setIfInBounds_toArray, List.set_cons_zero, List.set_cons_succ, i64_w, i32_w]
                          rfl
                        refine take_ (i := 5) (N := some 139) (v := ?_) (a' := ?_) #[true, true, true, false, true, true, true, false, false, false] rfl rfl (take_ofW HT_.out HW_.out (by kernel_rfl)) (fun _ _ _ h => h) (Or.inl ⟨by rfl, ?_⟩) hHeld ?_ ?_
                        rotate_left
                        · rintro w' ⟨s0, s1, s2, s3⟩
                          go_simp
                          with_reducible rfl
                        rotate_left
                        · simp only [Act.put, List.setIfInBounds_toArray, List.set_cons_zero, List.set_cons_succ, i64_w, i32_w]
                          rfl
                        refine one_ (i := 3) (N := some 137) #[true, true, true, true, true, true, true, false, false, false] rfl rfl (one_of HT_.out (by kernel_rfl)) (by decide) (fun K hK => ?_)
                        refine goes_ Try.func53 (by kernel_rfl) rfl #[.int .i64 a2_2, .agg #[.int .i64 0, .int .i64 1000]] (by rfl) rfl rfl (by (try simp only [List.map_toArray, List.map_cons, List.map_nil]); first | done | rfl | (simp only [List.length_drop, List.length_take]; rfl)) ?_
                        with_reducible refine (swashplatelaw01_within.calls a2_2 0 1000 t1098 _ A171.out).mono ?_
                        rintro e w230 ⟨rfl, hb⟩
                        refine ⟨_, rfl, ?_⟩
                        have n0_ := Aside0.mk (blk_below (g := gb1080) (o := .cells #[.int .i64 a0_0, .int .i64 a0_1] 27 (0, 0)) (by (with_reducible repeat (first | refine blk_drewN ?_ _ | refine blk_drew ?_ | refine blk_alloc ?_ _)); exact BK1080.out) hb)
                        have n1_ := Aside0.mk (blk_below (g := gb1081) (o := .cells #[.int .i64 a1_0, .int .i64 a1_1] 27 (0, 0)) (by (with_reducible repeat (first | refine blk_drewN ?_ _ | refine blk_drew ?_ | refine blk_alloc ?_ _)); exact BK1081.out) hb)
                        have n2_ := Aside0.mk (blk_below (g := gb1082) (o := .cells #[.int .i64 a2_0, .int .i64 a2_1, .int .i64 a2_2, .int .i64 a2_3] 92 (0, 0)) (by (with_reducible repeat (first | refine blk_drewN ?_ _ | refine blk_drew ?_ | refine blk_alloc ?_ _)); exact BK1082.out) hb)
                        have n3_ := Aside0.mk (blk_below (g := gb1091) (o := .cells #[.int .i64 t1088, .int .i64 t1089] 27 (0, 0)) (by (with_reducible repeat (first | refine blk_drewN ?_ _ | refine blk_drew ?_ | refine blk_alloc ?_ _)); exact BK1091.out) hb)
                        have n4_ := Aside0.mk (blk_below (g := gb1095) (o := .cells #[.int .i64 t1092, .int .i64 t1093] 27 (0, 0)) (by (with_reducible repeat (first | refine blk_drewN ?_ _ | refine blk_drew ?_ | refine blk_alloc ?_ _)); exact BK1095.out) hb)
                        have n5_ := Aside0.mk (below_step (by repeat (first | (with_reducible first | exact HB.out | apply below_alloc | apply pw_below_drewN | apply below_drew1 | refine below_set ?_ GE1080.out | refine below_set ?_ GE1081.out | refine below_set ?_ GE1082.out | refine below_set ?_ GE1091.out | refine below_set ?_ GE1095.out) | exact HB.out)) hb)
                        clear BK1080
                        clear BK1081
                        clear BK1082
                        clear BK1091
                        clear BK1095
                        clear HB
                        have BK1080 := n0_
                        have BK1081 := n1_
                        have BK1082 := n2_
                        have BK1091 := n3_
                        have BK1095 := n4_
                        have HB := n5_
                        clear n0_ n1_ n2_ n3_ n4_ n5_
                        (try clear hb)
                        (try clear hb2)
                        (try clear hk)
                        (try clear hi)
                        refine hK.out _ _ ⟨(blk_cell BK1082.out 0).trans rfl, (blk_cell BK1082.out 1).trans rfl, (blk_cell BK1082.out 2).trans rfl, (blk_cell BK1082.out 3).trans rfl⟩ (fun hHeld => ?_)
                        clear hK K
                        refine norm_ (a' := ?_) ?_ ?_
                        rotate_left
                        · show Act.put _ (some 137) _ = _
                          simp only [Act.put, List.setIfInBounds_toArray, List.set_cons_zero, List.set_cons_succ, i64_w, i32_w]
                          rfl
                        refine one_ (i := 7) (N := some 141) #[true, true, true, true, true, true, true, true, false, false] rfl rfl (one_of HT_.out (by kernel_rfl)) (by decide) (fun K hK => ?_)
                        refine goes_ Try.func53 (by kernel_rfl) rfl #[.int .i64 a2_3, .agg #[.int .i64 1, .int .i64 1000]] (by rfl) rfl rfl (by (try simp only [List.map_toArray, List.map_cons, List.map_nil]); first | done | rfl | (simp only [List.length_drop, List.length_take]; rfl)) ?_
                        with_reducible refine (swashplatelaw01_within.calls a2_3 1 1000 t1099 _ A172.out).mono ?_
                        rintro e w231 ⟨rfl, hb⟩
                        refine ⟨_, rfl, ?_⟩
                        have n0_ := Aside0.mk (blk_below (g := gb1080) (o := .cells #[.int .i64 a0_0, .int .i64 a0_1] 27 (0, 0)) (by (with_reducible repeat (first | refine blk_drewN ?_ _ | refine blk_drew ?_ | refine blk_alloc ?_ _)); exact BK1080.out) hb)
                        have n1_ := Aside0.mk (blk_below (g := gb1081) (o := .cells #[.int .i64 a1_0, .int .i64 a1_1] 27 (0, 0)) (by (with_reducible repeat (first | refine blk_drewN ?_ _ | refine blk_drew ?_ | refine blk_alloc ?_ _)); exact BK1081.out) hb)
                        have n2_ := Aside0.mk (blk_below (g := gb1082) (o := .cells #[.int .i64 a2_0, .int .i64 a2_1, .int .i64 a2_2, .int .i64 a2_3] 92 (0, 0)) (by (with_reducible repeat (first | refine blk_drewN ?_ _ | refine blk_drew ?_ | refine blk_alloc ?_ _)); exact BK1082.out) hb)
                        have n3_ := Aside0.mk (blk_below (g := gb1091) (o := .cells #[.int .i64 t1088, .int .i64 t1089] 27 (0, 0)) (by (with_reducible repeat (first | refine blk_drewN ?_ _ | refine blk_drew ?_ | refine blk_alloc ?_ _)); exact BK1091.out) hb)
                        have n4_ := Aside0.mk (blk_below (g := gb1095) (o := .cells #[.int .i64 t1092, .int .i64 t1093] 27 (0, 0)) (by (with_reducible repeat (first | refine blk_drewN ?_ _ | refine blk_drew ?_ | refine blk_alloc ?_ _)); exact BK1095.out) hb)
                        have n5_ := Aside0.mk (below_step (by repeat (first | (with_reducible first | exact HB.out | apply below_alloc | apply pw_below_drewN | apply below_drew1 | refine below_set ?_ GE1080.out | refine below_set ?_ GE1081.out | refine below_set ?_ GE1082.out | refine below_set ?_ GE1091.out | refine below_set ?_ GE1095.out) | exact HB.out)) hb)
                        clear BK1080
                        clear BK1081
                        clear BK1082
                        clear BK1091
                        clear BK1095
                        clear HB
                        have BK1080 := n0_
                        have BK1081 := n1_
                        have BK1082 := n2_
                        have BK1091 := n3_
                        have BK1095 := n4_
                        have HB := n5_
                        clear n0_ n1_ n2_ n3_ n4_ n5_
                        (try clear hb)
                        (try clear hb2)
                        (try clear hk)
                        (try clear hi)
                        refine hK.out _ _ ⟨(blk_cell BK1082.out 0).trans rfl, (blk_cell BK1082.out 1).trans rfl, (blk_cell BK1082.out 2).trans rfl, (blk_cell BK1082.out 3).trans rfl⟩ (fun hHeld => ?_)
                        clear hK K
                        refine norm_ (a' := ?_) ?_ ?_
                        rotate_left
                        · show Act.put _ (some 141) _ = _
                          simp only [Act.put, List.setIfInBounds_toArray, List.set_cons_zero, List.set_cons_succ, i64_w, i32_w]
                          rfl
                        refine pure_ (i := 8) (N := some 13) (v := ?_) (a' := ?_) #[true, true, true, true, true, true, true, true, true, false] rfl rfl (any_of HT_.out (by kernel_rfl)) (fun _ _ _ h => h) (Or.inl ⟨by rfl, ?_⟩) ?_ ?_
                        rotate_left
                        · intro w'
                          go_simp
                          with_reducible rfl
                        rotate_left
                        · simp only [Act.put, List.setIfInBounds_toArray, List.set_cons_zero, List.set_cons_succ, i64_w, i32_w]
                          rfl
                        refine pure_ (i := 9) (N := some 14) (v := ?_) (a' := ?_) #[true, true, true, true, true, true, true, true, true, true] rfl rfl (any_of HT_.out (by kernel_rfl)) (fun _ _ _ h => h) (Or.inl ⟨by rfl, ?_⟩) ?_ ?_
                        rotate_left
                        · intro w'
                          go_simp
                          with_reducible rfl
                        rotate_left
                        · simp only [Act.put, List.setIfInBounds_toArray, List.set_cons_zero, List.set_cons_succ, i64_w, i32_w]
                          rfl
                        refine done_ (done_of HT_.out (by kernel_rfl)) ?_
                        have hnb232 := NB1080_1081.out
                        have hnc232 := NB1081_1080.out
                        have hnb233 := NB1080_1082.out
                        have hnc233 := NB1082_1080.out
                        have hnb234 := NB1080_1091.out
                        have hnc234 := NB1091_1080.out
                        have hnb235 := NB1080_1095.out
                        have hnc235 := NB1095_1080.out
                        have hcz236_0 : w231.cell? ⟨gb1080, 0, none⟩ = some (.int .i64 a0_0) := (blk_cell BK1080.out 0).trans rfl
                        have hcz236_1 : w231.cell? ⟨gb1080, 1, none⟩ = some (.int .i64 a0_1) := (blk_cell BK1080.out 1).trans rfl
                        have hfz236_0 := blk_frozen BK1080.out 0
                        have hfz236_1 := blk_frozen BK1080.out 1
                        try go_wp2_with (first | ((with_reducible refine gate_callee (f := 57) rfl ?_); refine goesL_ (some 146) rfl rfl Try.func57 (by kernel_rfl) rfl #[.agg #[.int .i64 a0_0, .int .i64 a0_1], .int .i64 t1098, .int .i64 t1099] rfl (by (try simp only [List.map_toArray, List.map_cons, List.map_nil]); first | done | rfl | (simp only [List.length_drop, List.length_take]; rfl)) ?_; (with_reducible refine (spans_Part.calls kj104 a0_0 a0_1 t1098 t1099 t1100 t1101 t1102 _ A173.out).mono ?_); rintro e w237 ⟨rfl, hb⟩; refine ⟨_, rfl, ?_⟩; have n0_ := Aside0.mk (blk_below (g := gb1080) (o := .cells #[.int .i64 a0_0, .int .i64 a0_1] 27 (0, 0)) (by (with_reducible repeat (first | refine blk_drewN ?_ _ | refine blk_drew ?_ | refine blk_alloc ?_ _)); exact BK1080.out) hb); have n1_ := Aside0.mk (blk_below (g := gb1081) (o := .cells #[.int .i64 a1_0, .int .i64 a1_1] 27 (0, 0)) (by (with_reducible repeat (first | refine blk_drewN ?_ _ | refine blk_drew ?_ | refine blk_alloc ?_ _)); exact BK1081.out) hb); have n2_ := Aside0.mk (blk_below (g := gb1082) (o := .cells #[.int .i64 a2_0, .int .i64 a2_1, .int .i64 a2_2, .int .i64 a2_3] 92 (0, 0)) (by (with_reducible repeat (first | refine blk_drewN ?_ _ | refine blk_drew ?_ | refine blk_alloc ?_ _)); exact BK1082.out) hb); have n3_ := Aside0.mk (blk_below (g := gb1091) (o := .cells #[.int .i64 t1088, .int .i64 t1089] 27 (0, 0)) (by (with_reducible repeat (first | refine blk_drewN ?_ _ | refine blk_drew ?_ | refine blk_alloc ?_ _)); exact BK1091.out) hb); have n4_ := Aside0.mk (blk_below (g := gb1095) (o := .cells #[.int .i64 t1092, .int .i64 t1093] 27 (0, 0)) (by (with_reducible repeat (first | refine blk_drewN ?_ _ | refine blk_drew ?_ | refine blk_alloc ?_ _)); exact BK1095.out) hb); have n5_ := Aside0.mk (below_step (by repeat (first | (with_reducible first | exact HB.out | apply below_alloc | apply pw_below_drewN | apply below_drew1 | refine below_set ?_ GE1080.out | refine below_set ?_ GE1081.out | refine below_set ?_ GE1082.out | refine below_set ?_ GE1091.out | refine below_set ?_ GE1095.out) | exact HB.out)) hb); clear BK1080; clear BK1081; clear BK1082; clear BK1091; clear BK1095; clear HB; have BK1080 := n0_; have BK1081 := n1_; have BK1082 := n2_; have BK1091 := n3_; have BK1095 := n4_; have HB := n5_; clear n0_ n1_ n2_ n3_ n4_ n5_; (try clear hb); (try clear hb2); (try clear hk); (try clear hi)) | ((with_reducible refine gate_dst (N := 15) rfl ?_); refine box_event ?hg (N := 15) ?hd (cs := #[.int .i64 0, .int .i64 0]) (t := 27) ?hr ?_; (case hd => rfl); (case hg => rfl); (case hr => first | (go_simp; done) | (go_simp; rfl)); intro gb1103 hg w238 hbox hb; have n0_ := Aside0.mk (blk_below (g := gb1080) (o := .cells #[.int .i64 a0_0, .int .i64 a0_1] 27 (0, 0)) (by (with_reducible repeat (first | refine blk_drewN ?_ _ | refine blk_drew ?_ | refine blk_alloc ?_ _)); exact BK1080.out) hb); have n1_ := Aside0.mk (blk_below (g := gb1081) (o := .cells #[.int .i64 a1_0, .int .i64 a1_1] 27 (0, 0)) (by (with_reducible repeat (first | refine blk_drewN ?_ _ | refine blk_drew ?_ | refine blk_alloc ?_ _)); exact BK1081.out) hb); have n2_ := Aside0.mk (blk_below (g := gb1082) (o := .cells #[.int .i64 a2_0, .int .i64 a2_1, .int .i64 a2_2, .int .i64 a2_3] 92 (0, 0)) (by (with_reducible repeat (first | refine blk_drewN ?_ _ | refine blk_drew ?_ | refine blk_alloc ?_ _)); exact BK1082.out) hb); have n3_ := Aside0.mk (blk_below (g := gb1091) (o := .cells #[.int .i64 t1088, .int .i64 t1089] 27 (0, 0)) (by (with_reducible repeat (first | refine blk_drewN ?_ _ | refine blk_drew ?_ | refine blk_alloc ?_ _)); exact BK1091.out) hb); have n4_ := Aside0.mk (blk_below (g := gb1095) (o := .cells #[.int .i64 t1092, .int .i64 t1093] 27 (0, 0)) (by (with_reducible repeat (first | refine blk_drewN ?_ _ | refine blk_drew ?_ | refine blk_alloc ?_ _)); exact BK1095.out) hb); have n5_ := Aside0.mk (below_step (by repeat (first | (with_reducible first | exact HB.out | apply below_alloc | apply pw_below_drewN | apply below_drew1 | refine below_set ?_ GE1080.out | refine below_set ?_ GE1081.out | refine below_set ?_ GE1082.out | refine below_set ?_ GE1091.out | refine below_set ?_ GE1095.out) | exact HB.out)) hb); have n6_ := Aside0.mk (hbox); have n7_ := Aside0.mk ((by rw [hg]; exact (below_size (by repeat (first | (with_reducible first | exact HB.out | apply below_alloc | apply pw_below_drewN | apply below_drew1 | refine below_set ?_ GE1080.out | refine below_set ?_ GE1081.out | refine below_set ?_ GE1082.out | refine below_set ?_ GE1091.out | refine below_set ?_ GE1095.out) | exact HB.out))) : w.heap.size ≤ gb1103)); have n8_ := Aside0.mk ((by rw [hg]; exact (below_size (by repeat (first | (with_reducible first | exact HB.out | apply below_alloc | apply pw_below_drewN | apply below_drew1 | refine below_set ?_ GE1080.out | refine below_set ?_ GE1081.out | refine below_set ?_ GE1082.out | refine below_set ?_ GE1091.out | refine below_set ?_ GE1095.out) | exact HB.out))) : w.heap.size ≤ gb1103)); have n9_ := Aside0.mk ((by rw [hg]; exact Nat.ne_of_lt (blk_lt (g := gb1080) (o := .cells #[.int .i64 a0_0, .int .i64 a0_1] 27 (0, 0)) (by (with_reducible repeat (first | refine blk_drewN ?_ _ | refine blk_drew ?_ | refine blk_alloc ?_ _)); exact BK1080.out)) : gb1080 ≠ gb1103)); have n10_ := Aside0.mk ((by rw [hg]; exact Nat.ne_of_gt (blk_lt (g := gb1080) (o := .cells #[.int .i64 a0_0, .int .i64 a0_1] 27 (0, 0)) (by (with_reducible repeat (first | refine blk_drewN ?_ _ | refine blk_drew ?_ | refine blk_alloc ?_ _)); exact BK1080.out)) : gb1103 ≠ gb1080)); have n11_ := Aside0.mk ((by rw [hg]; exact Nat.ne_of_lt (blk_lt (g := gb1081) (o := .cells #[.int .i64 a1_0, .int .i64 a1_1] 27 (0, 0)) (by (with_reducible repeat (first | refine blk_drewN ?_ _ | refine blk_drew ?_ | refine blk_alloc ?_ _)); exact BK1081.out)) : gb1081 ≠ gb1103)); have n12_ := Aside0.mk ((by rw [hg]; exact Nat.ne_of_gt (blk_lt (g := gb1081) (o := .cells #[.int .i64 a1_0, .int .i64 a1_1] 27 (0, 0)) (by (with_reducible repeat (first | refine blk_drewN ?_ _ | refine blk_drew ?_ | refine blk_alloc ?_ _)); exact BK1081.out)) : gb1103 ≠ gb1081)); have n13_ := Aside0.mk ((by rw [hg]; exact Nat.ne_of_lt (blk_lt (g := gb1082) (o := .cells #[.int .i64 a2_0, .int .i64 a2_1, .int .i64 a2_2, .int .i64 a2_3] 92 (0, 0)) (by (with_reducible repeat (first | refine blk_drewN ?_ _ | refine blk_drew ?_ | refine blk_alloc ?_ _)); exact BK1082.out)) : gb1082 ≠ gb1103)); have n14_ := Aside0.mk ((by rw [hg]; exact Nat.ne_of_gt (blk_lt (g := gb1082) (o := .cells #[.int .i64 a2_0, .int .i64 a2_1, .int .i64 a2_2, .int .i64 a2_3] 92 (0, 0)) (by (with_reducible repeat (first | refine blk_drewN ?_ _ | refine blk_drew ?_ | refine blk_alloc ?_ _)); exact BK1082.out)) : gb1103 ≠ gb1082)); have n15_ := Aside0.mk ((by rw [hg]; exact Nat.ne_of_lt (blk_lt (g := gb1091) (o := .cells #[.int .i64 t1088, .int .i64 t1089] 27 (0, 0)) (by (with_reducible repeat (first | refine blk_drewN ?_ _ | refine blk_drew ?_ | refine blk_alloc ?_ _)); exact BK1091.out)) : gb1091 ≠ gb1103)); have n16_ := Aside0.mk ((by rw [hg]; exact Nat.ne_of_gt (blk_lt (g := gb1091) (o := .cells #[.int .i64 t1088, .int .i64 t1089] 27 (0, 0)) (by (with_reducible repeat (first | refine blk_drewN ?_ _ | refine blk_drew ?_ | refine blk_alloc ?_ _)); exact BK1091.out)) : gb1103 ≠ gb1091)); have n17_ := Aside0.mk ((by rw [hg]; exact Nat.ne_of_lt (blk_lt (g := gb1095) (o := .cells #[.int .i64 t1092, .int .i64 t1093] 27 (0, 0)) (by (with_reducible repeat (first | refine blk_drewN ?_ _ | refine blk_drew ?_ | refine blk_alloc ?_ _)); exact BK1095.out)) : gb1095 ≠ gb1103)); have n18_ := Aside0.mk ((by rw [hg]; exact Nat.ne_of_gt (blk_lt (g := gb1095) (o := .cells #[.int .i64 t1092, .int .i64 t1093] 27 (0, 0)) (by (with_reducible repeat (first | refine blk_drewN ?_ _ | refine blk_drew ?_ | refine blk_alloc ?_ _)); exact BK1095.out)) : gb1103 ≠ gb1095)); clear BK1080; clear BK1081; clear BK1082; clear BK1091; clear BK1095; clear HB; have BK1080 := n0_; have BK1081 := n1_; have BK1082 := n2_; have BK1091 := n3_; have BK1095 := n4_; have HB := n5_; have BK1103 := n6_; have GW1103 := n7_; have GE1103 := n8_; have NB1080_1103 := n9_; have NB1103_1080 := n10_; have NB1081_1103 := n11_; have NB1103_1081 := n12_; have NB1082_1103 := n13_; have NB1103_1082 := n14_; have NB1091_1103 := n15_; have NB1103_1091 := n16_; have NB1095_1103 := n17_; have NB1103_1095 := n18_; clear n0_ n1_ n2_ n3_ n4_ n5_ n6_ n7_ n8_ n9_ n10_ n11_ n12_ n13_ n14_ n15_ n16_ n17_ n18_; clear hb hbox hg; have hnb239 := NB1103_1080.out; have hnc239 := NB1080_1103.out; have hnb240 := NB1103_1081.out; have hnc240 := NB1081_1103.out; have hnb241 := NB1103_1082.out; have hnc241 := NB1082_1103.out; have hnb242 := NB1103_1091.out; have hnc242 := NB1091_1103.out; have hnb243 := NB1103_1095.out; have hnc243 := NB1095_1103.out; have hcz244_0 : w238.cell? ⟨gb1103, 0, none⟩ = some (.int .i64 0) := (blk_cell BK1103.out 0).trans rfl; have hcz244_1 : w238.cell? ⟨gb1103, 1, none⟩ = some (.int .i64 0) := (blk_cell BK1103.out 1).trans rfl; have hfz244_0 := blk_frozen BK1103.out 0; have hfz244_1 := blk_frozen BK1103.out 1) | (go_at_call 22; (with_reducible refine (swashplatelaw01_works.calls kj104  t1105 _ A228.out).mono ?_); rintro e w245 ⟨rfl, hb⟩; have n0_ := Aside0.mk (blk_below (g := gb1080) (o := .cells #[.int .i64 a0_0, .int .i64 a0_1] 27 (0, 0)) (by (with_reducible repeat (first | refine blk_drewN ?_ _ | refine blk_drew ?_ | refine blk_alloc ?_ _)); refine blk_far ?_ NB1080_1103.out _; (with_reducible repeat (first | refine blk_drewN ?_ _ | refine blk_drew ?_ | refine blk_alloc ?_ _)); refine blk_far ?_ NB1080_1103.out _; (with_reducible repeat (first | refine blk_drewN ?_ _ | refine blk_drew ?_ | refine blk_alloc ?_ _)); exact BK1080.out) hb); have n1_ := Aside0.mk (blk_below (g := gb1081) (o := .cells #[.int .i64 a1_0, .int .i64 a1_1] 27 (0, 0)) (by (with_reducible repeat (first | refine blk_drewN ?_ _ | refine blk_drew ?_ | refine blk_alloc ?_ _)); refine blk_far ?_ NB1081_1103.out _; (with_reducible repeat (first | refine blk_drewN ?_ _ | refine blk_drew ?_ | refine blk_alloc ?_ _)); refine blk_far ?_ NB1081_1103.out _; (with_reducible repeat (first | refine blk_drewN ?_ _ | refine blk_drew ?_ | refine blk_alloc ?_ _)); exact BK1081.out) hb); have n2_ := Aside0.mk (blk_below (g := gb1082) (o := .cells #[.int .i64 a2_0, .int .i64 a2_1, .int .i64 a2_2, .int .i64 a2_3] 92 (0, 0)) (by (with_reducible repeat (first | refine blk_drewN ?_ _ | refine blk_drew ?_ | refine blk_alloc ?_ _)); refine blk_far ?_ NB1082_1103.out _; (with_reducible repeat (first | refine blk_drewN ?_ _ | refine blk_drew ?_ | refine blk_alloc ?_ _)); refine blk_far ?_ NB1082_1103.out _; (with_reducible repeat (first | refine blk_drewN ?_ _ | refine blk_drew ?_ | refine blk_alloc ?_ _)); exact BK1082.out) hb); have n3_ := Aside0.mk (blk_below (g := gb1091) (o := .cells #[.int .i64 t1088, .int .i64 t1089] 27 (0, 0)) (by (with_reducible repeat (first | refine blk_drewN ?_ _ | refine blk_drew ?_ | refine blk_alloc ?_ _)); refine blk_far ?_ NB1091_1103.out _; (with_reducible repeat (first | refine blk_drewN ?_ _ | refine blk_drew ?_ | refine blk_alloc ?_ _)); refine blk_far ?_ NB1091_1103.out _; (with_reducible repeat (first | refine blk_drewN ?_ _ | refine blk_drew ?_ | refine blk_alloc ?_ _)); exact BK1091.out) hb); have n4_ := Aside0.mk (blk_below (g := gb1095) (o := .cells #[.int .i64 t1092, .int .i64 t1093] 27 (0, 0)) (by (with_reducible repeat (first | refine blk_drewN ?_ _ | refine blk_drew ?_ | refine blk_alloc ?_ _)); refine blk_far ?_ NB1095_1103.out _; (with_reducible repeat (first | refine blk_drewN ?_ _ | refine blk_drew ?_ | refine blk_alloc ?_ _)); refine blk_far ?_ NB1095_1103.out _; (with_reducible repeat (first | refine blk_drewN ?_ _ | refine blk_drew ?_ | refine blk_alloc ?_ _)); exact BK1095.out) hb); have n5_ := Aside0.mk (blk_below (g := gb1103) (o := .cells #[.int .i64 t1100, .int .i64 t1101] 27 (0, 0)) (by (with_reducible repeat (first | refine blk_drewN ?_ _ | refine blk_drew ?_ | refine blk_alloc ?_ _)); refine blk_put (cs := #[.int .i64 t1100, .int .i64 0]) ?_ 1 _ rfl; (with_reducible repeat (first | refine blk_drewN ?_ _ | refine blk_drew ?_ | refine blk_alloc ?_ _)); refine blk_put (cs := #[.int .i64 0, .int .i64 0]) ?_ 0 _ rfl; (with_reducible repeat (first | refine blk_drewN ?_ _ | refine blk_drew ?_ | refine blk_alloc ?_ _)); exact BK1103.out) hb); have n6_ := Aside0.mk (below_step (by repeat (first | (with_reducible first | exact HB.out | apply below_alloc | apply pw_below_drewN | apply below_drew1 | refine below_set ?_ GE1080.out | refine below_set ?_ GE1081.out | refine below_set ?_ GE1082.out | refine below_set ?_ GE1091.out | refine below_set ?_ GE1095.out | refine below_set ?_ GE1103.out) | exact HB.out)) hb); clear BK1080; clear BK1081; clear BK1082; clear BK1091; clear BK1095; clear BK1103; clear HB; have BK1080 := n0_; have BK1081 := n1_; have BK1082 := n2_; have BK1091 := n3_; have BK1095 := n4_; have BK1103 := n5_; have HB := n6_; clear n0_ n1_ n2_ n3_ n4_ n5_ n6_; (try clear hb); (try clear hb2); (try clear hk); (try clear hi)))
                        go_ret
                        exact ⟨by first | rfl | (simp [errW_none, errW_some] <;> rfl) | (simp [*, errW_none, errW_some] <;> rfl), by repeat (first | (with_reducible first | exact HB.out | apply below_alloc | apply pw_below_drewN | apply below_drew1 | refine below_set ?_ GE1080.out | refine below_set ?_ GE1081.out | refine below_set ?_ GE1082.out | refine below_set ?_ GE1091.out | refine below_set ?_ GE1095.out | refine below_set ?_ GE1103.out) | exact HB.out)⟩
                      · rw [if_neg c227] at H
                        have c227b0 : (t1102 == 2) = false := beq_eq_false_iff_ne.mpr c227
                        have c227b1 : (t1102 != 2) = true := bne_iff_ne.mpr c227
                        obtain rfl := Option.some.inj H
                        try go_wp2
                        have n0_ := Aside0.mk (blk_drew BK1080.out)
                        have n1_ := Aside0.mk (blk_drew BK1081.out)
                        have n2_ := Aside0.mk (blk_drew BK1082.out)
                        have n3_ := Aside0.mk (blk_drew BK1091.out)
                        have n4_ := Aside0.mk (blk_drew BK1095.out)
                        have n5_ := Aside0.mk (below_drew1 HB.out)
                        clear BK1080
                        clear BK1081
                        clear BK1082
                        clear BK1091
                        clear BK1095
                        clear HB
                        have BK1080 := n0_
                        have BK1081 := n1_
                        have BK1082 := n2_
                        have BK1091 := n3_
                        have BK1095 := n4_
                        have HB := n5_
                        clear n0_ n1_ n2_ n3_ n4_ n5_
                        refine start_ (n := 10) (S := fun w' => w'.cell? ⟨gb1082, 0, none⟩ = some (.int .i64 a2_0) ∧ w'.cell? ⟨gb1082, 1, none⟩ = some (.int .i64 a2_1) ∧ w'.cell? ⟨gb1082, 2, none⟩ = some (.int .i64 a2_2) ∧ w'.cell? ⟨gb1082, 3, none⟩ = some (.int .i64 a2_3)) (ds := []) #[false, false, false, false, false, false, false, false, false, false] (by kernel_rfl) rfl rfl ⟨(blk_cell BK1082.out 0).trans rfl, (blk_cell BK1082.out 1).trans rfl, (blk_cell BK1082.out 2).trans rfl, (blk_cell BK1082.out 3).trans rfl⟩ (fun hHeld => ?_); refine with_tabW swashplatelaw01_SpansEach.tab10 swashplatelaw01_SpansEach.bits10 (fun HT_ HW_ => ?_)
                        generalize wc.drew = w246 at BK1080 BK1081 BK1082 BK1091 BK1095 HB hHeld ⊢
                        refine pure_ (i := 0) (N := some 134) (v := ?_) (a' := ?_) #[true, false, false, false, false, false, false, false, false, false] rfl rfl (any_of HT_.out (by kernel_rfl)) (fun _ _ _ h => h) (Or.inl ⟨by rfl, ?_⟩) ?_ ?_
                        rotate_left
                        · intro w'
                          go_simp
                          with_reducible rfl
                        rotate_left
                        · simp only [Act.put, List.setIfInBounds_toArray, List.set_cons_zero, List.set_cons_succ, i64_w, i32_w]
                          rfl
                        refine pure_ (i := 2) (N := some 136) (v := ?_) (a' := ?_) #[true, false, true, false, false, false, false, false, false, false] rfl rfl (any_of HT_.out (by kernel_rfl)) (fun _ _ _ h => h) (Or.inl ⟨by rfl, ?_⟩) ?_ ?_
                        rotate_left
                        · intro w'
                          go_simp
                          with_reducible rfl
                        rotate_left
                        · simp only [Act.put, List.setIfInBounds_toArray, List.set_cons_zero, List.set_cons_succ, i64_w, i32_w]
                          rfl
                        refine pure_ (i := 4) (N := some 138) (v := ?_) (a' := ?_) #[true, false, true, false, true, false, false, false, false, false] rfl rfl (any_of HT_.out (by kernel_rfl)) (fun _ _ _ h => h) (Or.inl ⟨by rfl, ?_⟩) ?_ ?_
                        rotate_left
                        · intro w'
                          go_simp
                          with_reducible rfl
                        rotate_left
                        · simp only [Act.put, List.setIfInBounds_toArray, List.set_cons_zero, List.set_cons_succ, i64_w, i32_w]
                          rfl
                        refine pure_ (i := 6) (N := some 140) (v := ?_) (a' := ?_) #[true, false, true, false, true, false, true, false, false, false] rfl rfl (any_of HT_.out (by kernel_rfl)) (fun _ _ _ h => h) (Or.inl ⟨by rfl, ?_⟩) ?_ ?_
                        rotate_left
                        · intro w'
                          go_simp
                          with_reducible rfl
                        rotate_left
                        · simp only [Act.put, List.setIfInBounds_toArray, List.set_cons_zero, List.set_cons_succ, i64_w, i32_w]
                          rfl
                        refine take_ (i := 1) (N := some 135) (v := ?_) (a' := ?_) #[true, true, true, false, true, false, true, false, false, false] rfl rfl (take_ofW HT_.out HW_.out (by kernel_rfl)) (fun _ _ _ h => h) (Or.inl ⟨by rfl, ?_⟩) hHeld ?_ ?_
                        rotate_left
                        · rintro w' ⟨s0, s1, s2, s3⟩
                          go_simp
                          with_reducible rfl
                        rotate_left
                        · simp only [Act.put, List.setIfInBounds_toArray, List.set_cons_zero, List.set_cons_succ, i64_w, i32_w]
                          rfl
                        refine take_ (i := 5) (N := some 139) (v := ?_) (a' := ?_) #[true, true, true, false, true, true, true, false, false, false] rfl rfl (take_ofW HT_.out HW_.out (by kernel_rfl)) (fun _ _ _ h => h) (Or.inl ⟨by rfl, ?_⟩) hHeld ?_ ?_
                        rotate_left
                        · rintro w' ⟨s0, s1, s2, s3⟩
                          go_simp
                          with_reducible rfl
                        rotate_left
                        · simp only [Act.put, List.setIfInBounds_toArray, List.set_cons_zero, List.set_cons_succ, i64_w, i32_w]
                          rfl
                        refine one_ (i := 3) (N := some 137) #[true, true, true, true, true, true, true, false, false, false] rfl rfl (one_of HT_.out (by kernel_rfl)) (by decide) (fun K hK => ?_)
                        refine goes_ Try.func53 (by kernel_rfl) rfl #[.int .i64 a2_2, .agg #[.int .i64 0, .int .i64 1000]] (by rfl) rfl rfl (by (try simp only [List.map_toArray, List.map_cons, List.map_nil]); first | done | rfl | (simp only [List.length_drop, List.length_take]; rfl)) ?_
                        with_reducible refine (swashplatelaw01_within.calls a2_2 0 1000 t1098 _ A171.out).mono ?_
                        rintro e w247 ⟨rfl, hb⟩
                        refine ⟨_, rfl, ?_⟩
                        have n0_ := Aside0.mk (blk_below (g := gb1080) (o := .cells #[.int .i64 a0_0, .int .i64 a0_1] 27 (0, 0)) (by (with_reducible repeat (first | refine blk_drewN ?_ _ | refine blk_drew ?_ | refine blk_alloc ?_ _)); exact BK1080.out) hb)
                        have n1_ := Aside0.mk (blk_below (g := gb1081) (o := .cells #[.int .i64 a1_0, .int .i64 a1_1] 27 (0, 0)) (by (with_reducible repeat (first | refine blk_drewN ?_ _ | refine blk_drew ?_ | refine blk_alloc ?_ _)); exact BK1081.out) hb)
                        have n2_ := Aside0.mk (blk_below (g := gb1082) (o := .cells #[.int .i64 a2_0, .int .i64 a2_1, .int .i64 a2_2, .int .i64 a2_3] 92 (0, 0)) (by (with_reducible repeat (first | refine blk_drewN ?_ _ | refine blk_drew ?_ | refine blk_alloc ?_ _)); exact BK1082.out) hb)
                        have n3_ := Aside0.mk (blk_below (g := gb1091) (o := .cells #[.int .i64 t1088, .int .i64 t1089] 27 (0, 0)) (by (with_reducible repeat (first | refine blk_drewN ?_ _ | refine blk_drew ?_ | refine blk_alloc ?_ _)); exact BK1091.out) hb)
                        have n4_ := Aside0.mk (blk_below (g := gb1095) (o := .cells #[.int .i64 t1092, .int .i64 t1093] 27 (0, 0)) (by (with_reducible repeat (first | refine blk_drewN ?_ _ | refine blk_drew ?_ | refine blk_alloc ?_ _)); exact BK1095.out) hb)
                        have n5_ := Aside0.mk (below_step (by repeat (first | (with_reducible first | exact HB.out | apply below_alloc | apply pw_below_drewN | apply below_drew1 | refine below_set ?_ GE1080.out | refine below_set ?_ GE1081.out | refine below_set ?_ GE1082.out | refine below_set ?_ GE1091.out | refine below_set ?_ GE1095.out) | exact HB.out)) hb)
                        clear BK1080
                        clear BK1081
                        clear BK1082
                        clear BK1091
                        clear BK1095
                        clear HB
                        have BK1080 := n0_
                        have BK1081 := n1_
                        have BK1082 := n2_
                        have BK1091 := n3_
                        have BK1095 := n4_
                        have HB := n5_
                        clear n0_ n1_ n2_ n3_ n4_ n5_
                        (try clear hb)
                        (try clear hb2)
                        (try clear hk)
                        (try clear hi)
                        refine hK.out _ _ ⟨(blk_cell BK1082.out 0).trans rfl, (blk_cell BK1082.out 1).trans rfl, (blk_cell BK1082.out 2).trans rfl, (blk_cell BK1082.out 3).trans rfl⟩ (fun hHeld => ?_)
                        clear hK K
                        refine norm_ (a' := ?_) ?_ ?_
                        rotate_left
                        · show Act.put _ (some 137) _ = _
                          simp only [Act.put, List.setIfInBounds_toArray, List.set_cons_zero, List.set_cons_succ, i64_w, i32_w]
                          rfl
                        refine one_ (i := 7) (N := some 141) #[true, true, true, true, true, true, true, true, false, false] rfl rfl (one_of HT_.out (by kernel_rfl)) (by decide) (fun K hK => ?_)
                        refine goes_ Try.func53 (by kernel_rfl) rfl #[.int .i64 a2_3, .agg #[.int .i64 1, .int .i64 1000]] (by rfl) rfl rfl (by (try simp only [List.map_toArray, List.map_cons, List.map_nil]); first | done | rfl | (simp only [List.length_drop, List.length_take]; rfl)) ?_
                        with_reducible refine (swashplatelaw01_within.calls a2_3 1 1000 t1099 _ A172.out).mono ?_
                        rintro e w248 ⟨rfl, hb⟩
                        refine ⟨_, rfl, ?_⟩
                        have n0_ := Aside0.mk (blk_below (g := gb1080) (o := .cells #[.int .i64 a0_0, .int .i64 a0_1] 27 (0, 0)) (by (with_reducible repeat (first | refine blk_drewN ?_ _ | refine blk_drew ?_ | refine blk_alloc ?_ _)); exact BK1080.out) hb)
                        have n1_ := Aside0.mk (blk_below (g := gb1081) (o := .cells #[.int .i64 a1_0, .int .i64 a1_1] 27 (0, 0)) (by (with_reducible repeat (first | refine blk_drewN ?_ _ | refine blk_drew ?_ | refine blk_alloc ?_ _)); exact BK1081.out) hb)
                        have n2_ := Aside0.mk (blk_below (g := gb1082) (o := .cells #[.int .i64 a2_0, .int .i64 a2_1, .int .i64 a2_2, .int .i64 a2_3] 92 (0, 0)) (by (with_reducible repeat (first | refine blk_drewN ?_ _ | refine blk_drew ?_ | refine blk_alloc ?_ _)); exact BK1082.out) hb)
                        have n3_ := Aside0.mk (blk_below (g := gb1091) (o := .cells #[.int .i64 t1088, .int .i64 t1089] 27 (0, 0)) (by (with_reducible repeat (first | refine blk_drewN ?_ _ | refine blk_drew ?_ | refine blk_alloc ?_ _)); exact BK1091.out) hb)
                        have n4_ := Aside0.mk (blk_below (g := gb1095) (o := .cells #[.int .i64 t1092, .int .i64 t1093] 27 (0, 0)) (by (with_reducible repeat (first | refine blk_drewN ?_ _ | refine blk_drew ?_ | refine blk_alloc ?_ _)); exact BK1095.out) hb)
                        have n5_ := Aside0.mk (below_step (by repeat (first | (with_reducible first | exact HB.out | apply below_alloc | apply pw_below_drewN | apply below_drew1 | refine below_set ?_ GE1080.out | refine below_set ?_ GE1081.out | refine below_set ?_ GE1082.out | refine below_set ?_ GE1091.out | refine below_set ?_ GE1095.out) | exact HB.out)) hb)
                        clear BK1080
                        clear BK1081
                        clear BK1082
                        clear BK1091
                        clear BK1095
                        clear HB
                        have BK1080 := n0_
                        have BK1081 := n1_
                        have BK1082 := n2_
                        have BK1091 := n3_
                        have BK1095 := n4_
                        have HB := n5_
                        clear n0_ n1_ n2_ n3_ n4_ n5_
                        (try clear hb)
                        (try clear hb2)
                        (try clear hk)
                        (try clear hi)
                        refine hK.out _ _ ⟨(blk_cell BK1082.out 0).trans rfl, (blk_cell BK1082.out 1).trans rfl, (blk_cell BK1082.out 2).trans rfl, (blk_cell BK1082.out 3).trans rfl⟩ (fun hHeld => ?_)
                        clear hK K
                        refine norm_ (a' := ?_) ?_ ?_
                        rotate_left
                        · show Act.put _ (some 141) _ = _
                          simp only [Act.put, List.setIfInBounds_toArray, List.set_cons_zero, List.set_cons_succ, i64_w, i32_w]
                          rfl
                        refine pure_ (i := 8) (N := some 13) (v := ?_) (a' := ?_) #[true, true, true, true, true, true, true, true, true, false] rfl rfl (any_of HT_.out (by kernel_rfl)) (fun _ _ _ h => h) (Or.inl ⟨by rfl, ?_⟩) ?_ ?_
                        rotate_left
                        · intro w'
                          go_simp
                          with_reducible rfl
                        rotate_left
                        · simp only [Act.put, List.setIfInBounds_toArray, List.set_cons_zero, List.set_cons_succ, i64_w, i32_w]
                          rfl
                        refine pure_ (i := 9) (N := some 14) (v := ?_) (a' := ?_) #[true, true, true, true, true, true, true, true, true, true] rfl rfl (any_of HT_.out (by kernel_rfl)) (fun _ _ _ h => h) (Or.inl ⟨by rfl, ?_⟩) ?_ ?_
                        rotate_left
                        · intro w'
                          go_simp
                          with_reducible rfl
                        rotate_left
                        · simp only [Act.put, List.setIfInBounds_toArray, List.set_cons_zero, List.set_cons_succ, i64_w, i32_w]
                          rfl
                        refine done_ (done_of HT_.out (by kernel_rfl)) ?_
                        have hnb249 := NB1080_1081.out
                        have hnc249 := NB1081_1080.out
                        have hnb250 := NB1080_1082.out
                        have hnc250 := NB1082_1080.out
                        have hnb251 := NB1080_1091.out
                        have hnc251 := NB1091_1080.out
                        have hnb252 := NB1080_1095.out
                        have hnc252 := NB1095_1080.out
                        have hcz253_0 : w248.cell? ⟨gb1080, 0, none⟩ = some (.int .i64 a0_0) := (blk_cell BK1080.out 0).trans rfl
                        have hcz253_1 : w248.cell? ⟨gb1080, 1, none⟩ = some (.int .i64 a0_1) := (blk_cell BK1080.out 1).trans rfl
                        have hfz253_0 := blk_frozen BK1080.out 0
                        have hfz253_1 := blk_frozen BK1080.out 1
                        try go_wp2_with (first | ((with_reducible refine gate_callee (f := 57) rfl ?_); refine goesL_ (some 146) rfl rfl Try.func57 (by kernel_rfl) rfl #[.agg #[.int .i64 a0_0, .int .i64 a0_1], .int .i64 t1098, .int .i64 t1099] rfl (by (try simp only [List.map_toArray, List.map_cons, List.map_nil]); first | done | rfl | (simp only [List.length_drop, List.length_take]; rfl)) ?_; (with_reducible refine (spans_Part.calls kj104 a0_0 a0_1 t1098 t1099 t1100 t1101 t1102 _ A173.out).mono ?_); rintro e w254 ⟨rfl, hb⟩; refine ⟨_, rfl, ?_⟩; have n0_ := Aside0.mk (blk_below (g := gb1080) (o := .cells #[.int .i64 a0_0, .int .i64 a0_1] 27 (0, 0)) (by (with_reducible repeat (first | refine blk_drewN ?_ _ | refine blk_drew ?_ | refine blk_alloc ?_ _)); exact BK1080.out) hb); have n1_ := Aside0.mk (blk_below (g := gb1081) (o := .cells #[.int .i64 a1_0, .int .i64 a1_1] 27 (0, 0)) (by (with_reducible repeat (first | refine blk_drewN ?_ _ | refine blk_drew ?_ | refine blk_alloc ?_ _)); exact BK1081.out) hb); have n2_ := Aside0.mk (blk_below (g := gb1082) (o := .cells #[.int .i64 a2_0, .int .i64 a2_1, .int .i64 a2_2, .int .i64 a2_3] 92 (0, 0)) (by (with_reducible repeat (first | refine blk_drewN ?_ _ | refine blk_drew ?_ | refine blk_alloc ?_ _)); exact BK1082.out) hb); have n3_ := Aside0.mk (blk_below (g := gb1091) (o := .cells #[.int .i64 t1088, .int .i64 t1089] 27 (0, 0)) (by (with_reducible repeat (first | refine blk_drewN ?_ _ | refine blk_drew ?_ | refine blk_alloc ?_ _)); exact BK1091.out) hb); have n4_ := Aside0.mk (blk_below (g := gb1095) (o := .cells #[.int .i64 t1092, .int .i64 t1093] 27 (0, 0)) (by (with_reducible repeat (first | refine blk_drewN ?_ _ | refine blk_drew ?_ | refine blk_alloc ?_ _)); exact BK1095.out) hb); have n5_ := Aside0.mk (below_step (by repeat (first | (with_reducible first | exact HB.out | apply below_alloc | apply pw_below_drewN | apply below_drew1 | refine below_set ?_ GE1080.out | refine below_set ?_ GE1081.out | refine below_set ?_ GE1082.out | refine below_set ?_ GE1091.out | refine below_set ?_ GE1095.out) | exact HB.out)) hb); clear BK1080; clear BK1081; clear BK1082; clear BK1091; clear BK1095; clear HB; have BK1080 := n0_; have BK1081 := n1_; have BK1082 := n2_; have BK1091 := n3_; have BK1095 := n4_; have HB := n5_; clear n0_ n1_ n2_ n3_ n4_ n5_; (try clear hb); (try clear hb2); (try clear hk); (try clear hi)) | ((with_reducible refine gate_dst (N := 15) rfl ?_); refine box_event ?hg (N := 15) ?hd (cs := #[.int .i64 0, .int .i64 0]) (t := 27) ?hr ?_; (case hd => rfl); (case hg => rfl); (case hr => first | (go_simp; done) | (go_simp; rfl)); intro gb1103 hg w255 hbox hb; have n0_ := Aside0.mk (blk_below (g := gb1080) (o := .cells #[.int .i64 a0_0, .int .i64 a0_1] 27 (0, 0)) (by (with_reducible repeat (first | refine blk_drewN ?_ _ | refine blk_drew ?_ | refine blk_alloc ?_ _)); exact BK1080.out) hb); have n1_ := Aside0.mk (blk_below (g := gb1081) (o := .cells #[.int .i64 a1_0, .int .i64 a1_1] 27 (0, 0)) (by (with_reducible repeat (first | refine blk_drewN ?_ _ | refine blk_drew ?_ | refine blk_alloc ?_ _)); exact BK1081.out) hb); have n2_ := Aside0.mk (blk_below (g := gb1082) (o := .cells #[.int .i64 a2_0, .int .i64 a2_1, .int .i64 a2_2, .int .i64 a2_3] 92 (0, 0)) (by (with_reducible repeat (first | refine blk_drewN ?_ _ | refine blk_drew ?_ | refine blk_alloc ?_ _)); exact BK1082.out) hb); have n3_ := Aside0.mk (blk_below (g := gb1091) (o := .cells #[.int .i64 t1088, .int .i64 t1089] 27 (0, 0)) (by (with_reducible repeat (first | refine blk_drewN ?_ _ | refine blk_drew ?_ | refine blk_alloc ?_ _)); exact BK1091.out) hb); have n4_ := Aside0.mk (blk_below (g := gb1095) (o := .cells #[.int .i64 t1092, .int .i64 t1093] 27 (0, 0)) (by (with_reducible repeat (first | refine blk_drewN ?_ _ | refine blk_drew ?_ | refine blk_alloc ?_ _)); exact BK1095.out) hb); have n5_ := Aside0.mk (below_step (by repeat (first | (with_reducible first | exact HB.out | apply below_alloc | apply pw_below_drewN | apply below_drew1 | refine below_set ?_ GE1080.out | refine below_set ?_ GE1081.out | refine below_set ?_ GE1082.out | refine below_set ?_ GE1091.out | refine below_set ?_ GE1095.out) | exact HB.out)) hb); have n6_ := Aside0.mk (hbox); have n7_ := Aside0.mk ((by rw [hg]; exact (below_size (by repeat (first | (with_reducible first | exact HB.out | apply below_alloc | apply pw_below_drewN | apply below_drew1 | refine below_set ?_ GE1080.out | refine below_set ?_ GE1081.out | refine below_set ?_ GE1082.out | refine below_set ?_ GE1091.out | refine below_set ?_ GE1095.out) | exact HB.out))) : w.heap.size ≤ gb1103)); have n8_ := Aside0.mk ((by rw [hg]; exact (below_size (by repeat (first | (with_reducible first | exact HB.out | apply below_alloc | apply pw_below_drewN | apply below_drew1 | refine below_set ?_ GE1080.out | refine below_set ?_ GE1081.out | refine below_set ?_ GE1082.out | refine below_set ?_ GE1091.out | refine below_set ?_ GE1095.out) | exact HB.out))) : w.heap.size ≤ gb1103)); have n9_ := Aside0.mk ((by rw [hg]; exact Nat.ne_of_lt (blk_lt (g := gb1080) (o := .cells #[.int .i64 a0_0, .int .i64 a0_1] 27 (0, 0)) (by (with_reducible repeat (first | refine blk_drewN ?_ _ | refine blk_drew ?_ | refine blk_alloc ?_ _)); exact BK1080.out)) : gb1080 ≠ gb1103)); have n10_ := Aside0.mk ((by rw [hg]; exact Nat.ne_of_gt (blk_lt (g := gb1080) (o := .cells #[.int .i64 a0_0, .int .i64 a0_1] 27 (0, 0)) (by (with_reducible repeat (first | refine blk_drewN ?_ _ | refine blk_drew ?_ | refine blk_alloc ?_ _)); exact BK1080.out)) : gb1103 ≠ gb1080)); have n11_ := Aside0.mk ((by rw [hg]; exact Nat.ne_of_lt (blk_lt (g := gb1081) (o := .cells #[.int .i64 a1_0, .int .i64 a1_1] 27 (0, 0)) (by (with_reducible repeat (first | refine blk_drewN ?_ _ | refine blk_drew ?_ | refine blk_alloc ?_ _)); exact BK1081.out)) : gb1081 ≠ gb1103)); have n12_ := Aside0.mk ((by rw [hg]; exact Nat.ne_of_gt (blk_lt (g := gb1081) (o := .cells #[.int .i64 a1_0, .int .i64 a1_1] 27 (0, 0)) (by (with_reducible repeat (first | refine blk_drewN ?_ _ | refine blk_drew ?_ | refine blk_alloc ?_ _)); exact BK1081.out)) : gb1103 ≠ gb1081)); have n13_ := Aside0.mk ((by rw [hg]; exact Nat.ne_of_lt (blk_lt (g := gb1082) (o := .cells #[.int .i64 a2_0, .int .i64 a2_1, .int .i64 a2_2, .int .i64 a2_3] 92 (0, 0)) (by (with_reducible repeat (first | refine blk_drewN ?_ _ | refine blk_drew ?_ | refine blk_alloc ?_ _)); exact BK1082.out)) : gb1082 ≠ gb1103)); have n14_ := Aside0.mk ((by rw [hg]; exact Nat.ne_of_gt (blk_lt (g := gb1082) (o := .cells #[.int .i64 a2_0, .int .i64 a2_1, .int .i64 a2_2, .int .i64 a2_3] 92 (0, 0)) (by (with_reducible repeat (first | refine blk_drewN ?_ _ | refine blk_drew ?_ | refine blk_alloc ?_ _)); exact BK1082.out)) : gb1103 ≠ gb1082)); have n15_ := Aside0.mk ((by rw [hg]; exact Nat.ne_of_lt (blk_lt (g := gb1091) (o := .cells #[.int .i64 t1088, .int .i64 t1089] 27 (0, 0)) (by (with_reducible repeat (first | refine blk_drewN ?_ _ | refine blk_drew ?_ | refine blk_alloc ?_ _)); exact BK1091.out)) : gb1091 ≠ gb1103)); have n16_ := Aside0.mk ((by rw [hg]; exact Nat.ne_of_gt (blk_lt (g := gb1091) (o := .cells #[.int .i64 t1088, .int .i64 t1089] 27 (0, 0)) (by (with_reducible repeat (first | refine blk_drewN ?_ _ | refine blk_drew ?_ | refine blk_alloc ?_ _)); exact BK1091.out)) : gb1103 ≠ gb1091)); have n17_ := Aside0.mk ((by rw [hg]; exact Nat.ne_of_lt (blk_lt (g := gb1095) (o := .cells #[.int .i64 t1092, .int .i64 t1093] 27 (0, 0)) (by (with_reducible repeat (first | refine blk_drewN ?_ _ | refine blk_drew ?_ | refine blk_alloc ?_ _)); exact BK1095.out)) : gb1095 ≠ gb1103)); have n18_ := Aside0.mk ((by rw [hg]; exact Nat.ne_of_gt (blk_lt (g := gb1095) (o := .cells #[.int .i64 t1092, .int .i64 t1093] 27 (0, 0)) (by (with_reducible repeat (first | refine blk_drewN ?_ _ | refine blk_drew ?_ | refine blk_alloc ?_ _)); exact BK1095.out)) : gb1103 ≠ gb1095)); clear BK1080; clear BK1081; clear BK1082; clear BK1091; clear BK1095; clear HB; have BK1080 := n0_; have BK1081 := n1_; have BK1082 := n2_; have BK1091 := n3_; have BK1095 := n4_; have HB := n5_; have BK1103 := n6_; have GW1103 := n7_; have GE1103 := n8_; have NB1080_1103 := n9_; have NB1103_1080 := n10_; have NB1081_1103 := n11_; have NB1103_1081 := n12_; have NB1082_1103 := n13_; have NB1103_1082 := n14_; have NB1091_1103 := n15_; have NB1103_1091 := n16_; have NB1095_1103 := n17_; have NB1103_1095 := n18_; clear n0_ n1_ n2_ n3_ n4_ n5_ n6_ n7_ n8_ n9_ n10_ n11_ n12_ n13_ n14_ n15_ n16_ n17_ n18_; clear hb hbox hg; have hnb256 := NB1103_1080.out; have hnc256 := NB1080_1103.out; have hnb257 := NB1103_1081.out; have hnc257 := NB1081_1103.out; have hnb258 := NB1103_1082.out; have hnc258 := NB1082_1103.out; have hnb259 := NB1103_1091.out; have hnc259 := NB1091_1103.out; have hnb260 := NB1103_1095.out; have hnc260 := NB1095_1103.out; have hcz261_0 : w255.cell? ⟨gb1103, 0, none⟩ = some (.int .i64 0) := (blk_cell BK1103.out 0).trans rfl; have hcz261_1 : w255.cell? ⟨gb1103, 1, none⟩ = some (.int .i64 0) := (blk_cell BK1103.out 1).trans rfl; have hfz261_0 := blk_frozen BK1103.out 0; have hfz261_1 := blk_frozen BK1103.out 1))
                        go_ret
                        exact ⟨by first | rfl | (simp [errW_none, errW_some] <;> rfl) | (simp [*, errW_none, errW_some] <;> rfl), by repeat (first | (with_reducible first | exact HB.out | apply below_alloc | apply pw_below_drewN | apply below_drew1 | refine below_set ?_ GE1080.out | refine below_set ?_ GE1081.out | refine below_set ?_ GE1082.out | refine below_set ?_ GE1091.out | refine below_set ?_ GE1095.out | refine below_set ?_ GE1103.out) | exact HB.out)⟩
end Go.Proofs.Yteodlmgmmpkpoaa.PS
end
