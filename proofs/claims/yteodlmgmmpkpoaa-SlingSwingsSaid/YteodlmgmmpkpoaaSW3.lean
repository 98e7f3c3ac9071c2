-- Printed by a program of this session out of the translation (hybrid print) and out of hand proofs. Not trusted: Lean checks it.
import Derived.Below
import Derived.Deep.Draws
import Derived.Deep.AppendLies
import Derived.Maps.AppendAt
import Derived.OwnWalk
import Derived.Laws.BytesArg
import Derived.Laws.MakeOwn
import Derived.Laws.OwnMore
import Derived.Deep.OwnRows
import Derived.Tactics
import Derived.Lib.ConvBytes
import Derived.Laws.Slices
import Derived.WalkKit
import Derived.KernelRfl
import Derived.RowKit3
import Derived.Deep.LoopGhost
import Derived.Deep.QuietTactic
import Derived.BigQuiet
import Derived.WideLaws
import Derived.Deep.DeepCutAuto
import Derived.Deep.CutBlock
import Derived.Deep.RegionHeld3
import Derived.Laws.Rows
import Derived.Lib.AppendStr
import Derived.ArgAppend
import Derived.Laws.IdiomCopy
import Derived.RowKit
import Derived.OrdersHeld
import Derived.Laws.BitsLemmas
import Derived.Laws.StructEq
import Derived.Test.YteodlmgmmpkpoaaProg
import Derived.Laws.EntriesVeiled
import Derived.StillTailTactics
import Derived.RangeFuncNested
import Derived.RangeFuncBound
import Derived.RangeFuncCalls
import Derived.RangeFuncLeaves
import Derived.Shelf.Abstract
import Derived.OwnWalkIn
import Derived.TacticsInMore
import Derived.LoopNIn
import Derived.LoopIn
import Derived.RegionIn
import Derived.Deep.Strs
import Derived.Deep.Slices
import Derived.OpenShut
import Derived.ProofKit
import Derived.Carry
import Derived.Test.YteodlmgmmpkpoaaRows
import Derived.Lib.SmallJoins
import Derived.Test.YteodlmgmmpkpoaaSW2
section
namespace Go.Proofs.Yteodlmgmmpkpoaa.PS
open Go.RowKit Go.Proofs.YteodlmgmmpkpoaaW.PrintWords Go.Proofs.YteodlmgmmpkpoaaW.PrintLast Go.Proofs.YteodlmgmmpkpoaaW.PrintMore
attribute [local go_sem] max2_int min2_int max_two min_two max_three min_three max_four min_four   -- for this text's walks alone
set_option linter.unusedVariables false
set_option linter.unusedSimpArgs false
mutual
def swashplateref07_Calm.j0 : Nat → Int → Bool → Int → Int → Int → Int → Int → Int → Int → Option (Int × Int)
 | 0, _, _, _, _, _, _, _, _, _ => none
 | k + 1, x2, x30, x166000, x166001, x166002, x167000, x167001, x168000, x168001 => if x30 = true then (some (0, 1)) else (if 0 ≤ x2 then (if (x2 : Int).toNat ≤ 35184372088832 then ((swashplateref07_swung.f k x166000 x166001 x166002 x167000 x167001 (List.replicate (x2 : Int).toNat 0)).bind fun t175 => (swashplateref07_Calm.l0 k t175 (-1) x2 x166000 x166001 x166002 x168000 x168001)) else (none)) else (none))
def swashplateref07_Calm.l0 : Nat → List Int → Int → Int → Int → Int → Int → Int → Int → Option (Int × Int)
 | 0, _, _, _, _, _, _, _, _ => none
 | k + 1, x11, x12, x13, x166000, x166001, x166002, x168000, x168001 => if x13 ≥ 0 then ((swashplateref07_power.f k x166002 x13).bind fun t178 => (if 0 ≤ x13 then (if x13 < (x11.length : Int) then (if (rd x11 x13) < (wrap64 (x168000 * t178)) then (if x12 < 0 then (some (0, 3)) else (some (x12, 0))) else (if (rd x11 x13) > (wrap64 (x168001 * t178)) then (if x12 < 0 then (some (0, 3)) else (some (x12, 0))) else (swashplateref07_Calm.l0 k x11 x13 (wrap64 (x13 - 1)) x166000 x166001 x166002 x168000 x168001))) else (none)) else (none))) else (if x12 < 0 then (some (0, 3)) else (some (x12, 0)))
end
def swashplateref07_Calm.f (k : Nat) (a0_0 : Int) (a0_1 : Int) (a0_2 : Int) (a1_0 : Int) (a1_1 : Int) (a2 : Int) (a3_0 : Int) (a3_1 : Int) : Option (Int × Int) := (swashplateref07_Check.f a0_0 a0_1 a0_2).bind fun t168 => (if t168 = 0 then ((swashplateref01_Valid.f a3_0 a3_1).bind fun t169 => (if t169 = true then ((swashplateref07_started.f a1_0 a1_1).bind fun t170 => (if t170 = true then ((swashplateref07_within.f a2 0 16).bind fun t171 => (swashplateref07_Calm.j0 k a2 (!t171) a0_0 a0_1 a0_2 a1_0 a1_1 a3_0 a3_1)) else (swashplateref07_Calm.j0 k a2 true a0_0 a0_1 a0_2 a1_0 a1_1 a3_0 a3_1))) else (some (0, 10)))) else (some (0, t168)))
def swashplateref07_Calm.T8 : Bool × List (List Nat × List Nat) := (true, [([], []), ([], []), ([1], [1]), ([], []), ([3], [3]), ([], []), ([5, 5], [5]), ([0, 2, 4, 6], [0, 2, 4, 6]), ([7, 7, 0, 1, 2, 3, 4, 5, 6, 7], [7])])
def swashplateref07_Calm.B8 : List Nat := [0, 0, 2, 0, 8, 0, 32, 127, 255]
theorem swashplateref07_Calm.tab8 : rtab .any (opsOf Try.f74 8) = swashplateref07_Calm.T8 := by kernel_rfl
theorem swashplateref07_Calm.bits8 : waitsOk swashplateref07_Calm.T8.2 swashplateref07_Calm.B8 = true := by kernel_rfl
def swashplateref07_Calm.T14 : Bool × List (List Nat × List Nat) := (true, [([], []), ([], []), ([0, 1], [0, 1]), ([2], [2]), ([], []), ([4], [4]), ([], []), ([5, 6], [5, 6]), ([3, 7], [3, 7]), ([8], [8]), ([9], [9]), ([9], [9]), ([10, 11, 9], [9, 10, 11]), ([12, 9], [9, 12]), ([9], [9]), ([14, 9], [9, 14]), ([9], [9]), ([15, 16, 9], [9, 15, 16]), ([13, 17, 9], [9, 13, 17]), ([9, 18], [9, 18])])
def swashplateref07_Calm.B14 : List Nat := [0, 0, 3, 7, 0, 16, 0, 112, 255, 511, 1023, 1023, 4095, 8191, 1023, 17407, 1023, 115711, 262143, 524287]
theorem swashplateref07_Calm.tab14 : rtab .any (opsOf Try.f74 14) = swashplateref07_Calm.T14 := by kernel_rfl
theorem swashplateref07_Calm.bits14 : waitsOk swashplateref07_Calm.T14.2 swashplateref07_Calm.B14 = true := by kernel_rfl
set_option maxHeartbeats 8000000 in
set_option maxRecDepth 100000 in
theorem swashplateref07_Calm.calls (k : Nat) (a0_0 : Int) (a0_1 : Int) (a0_2 : Int) (a1_0 : Int) (a1_1 : Int) (a2 : Int) (a3_0 : Int) (a3_1 : Int) (r1 : Int) (r2 : Int) (w : World) (h : swashplateref07_Calm.f k a0_0 a0_1 a0_2 a1_0 a1_1 a2 a3_0 a3_1 = some (r1, r2)) :
  Calls Try.prog 74 #[.agg #[.int .i64 a0_0, .int .i64 a0_1, .int .i64 a0_2], .agg #[.int .i64 a1_0, .int .i64 a1_1], .int .i64 a2, .agg #[.int .i64 a3_0, .int .i64 a3_1]] w fun e w' => e = .returned (.tuple #[.int .i64 r1, .int .i64 r2]) ∧ Below w.heap.size w w' := by
 have hu105 := Try.underlying105
 have hu28 := Try.underlying28
 have hu27 := Try.underlying27
 have HB := Aside0.mk (Below.refl w.heap.size w)
 have H : ((swashplateref07_Check.f a0_0 a0_1 a0_2).bind fun t168 => (if t168 = 0 then ((swashplateref01_Valid.f a3_0 a3_1).bind fun t169 => (if t169 = true then ((swashplateref07_started.f a1_0 a1_1).bind fun t170 => (if t170 = true then ((swashplateref07_within.f a2 0 16).bind fun t171 => (swashplateref07_Calm.j0 k a2 (!t171) a0_0 a0_1 a0_2 a1_0 a1_1 a3_0 a3_1)) else (swashplateref07_Calm.j0 k a2 true a0_0 a0_1 a0_2 a1_0 a1_1 a3_0 a3_1))) else (some (0, 10)))) else (some (0, t168)))) = some (r1, r2) := h
 clear h
 replace H := Option.bind_eq_some_iff.mp H
 obtain ⟨t168, A50, H⟩ := H
 replace H : (if t168 = 0 then ((swashplateref01_Valid.f a3_0 a3_1).bind fun t169 => (if t169 = true then ((swashplateref07_started.f a1_0 a1_1).bind fun t170 => (if t170 = true then ((swashplateref07_within.f a2 0 16).bind fun t171 => (swashplateref07_Calm.j0 k a2 (!t171) a0_0 a0_1 a0_2 a1_0 a1_1 a3_0 a3_1)) else (swashplateref07_Calm.j0 k a2 true a0_0 a0_1 a0_2 a1_0 a1_1 a3_0 a3_1))) else (some (0, 10)))) else (some (0, t168))) = some (r1, r2) := H
 have A5 := Aside0.mk A50
 clear A50
 by_cases c6 : t168 = 0
 ·
  rw [if_pos c6] at H
  have c6b0 : (t168 == 0) = true := beq_iff_eq.mpr c6
  have c6b1 : (t168 != 0) = false := bne_eq_false_iff_eq.mpr c6
  clear c6
  replace H := Option.bind_eq_some_iff.mp H
  obtain ⟨t169, A70, H⟩ := H
  replace H : (if t169 = true then ((swashplateref07_started.f a1_0 a1_1).bind fun t170 => (if t170 = true then ((swashplateref07_within.f a2 0 16).bind fun t171 => (swashplateref07_Calm.j0 k a2 (!t171) a0_0 a0_1 a0_2 a1_0 a1_1 a3_0 a3_1)) else (swashplateref07_Calm.j0 k a2 true a0_0 a0_1 a0_2 a1_0 a1_1 a3_0 a3_1))) else (some (0, 10))) = some (r1, r2) := H
  have A7 := Aside0.mk A70
  clear A70
  by_cases c8 : t169 = true
  ·
   subst c8
   have H1 : ((swashplateref07_started.f a1_0 a1_1).bind fun t170 => (if t170 = true then ((swashplateref07_within.f a2 0 16).bind fun t171 => (swashplateref07_Calm.j0 k a2 (!t171) a0_0 a0_1 a0_2 a1_0 a1_1 a3_0 a3_1)) else (swashplateref07_Calm.j0 k a2 true a0_0 a0_1 a0_2 a1_0 a1_1 a3_0 a3_1))) = some (r1, r2) := by rw [if_pos rfl] at H; exact H
   clear H
   have H := H1
   clear H1
   have HC9 := Aside0.mk H
   clear H
   go_enter Try.func74, Try.ntmps74
   go_upto_region 6 with (first | ((with_reducible refine gate_dst (N := 4) rfl ?_); refine box_event ?hg (N := 4) ?hd (cs := #[.int .i64 a0_0, .int .i64 a0_1, .int .i64 a0_2]) (t := 105) ?hr ?_; (case hd => rfl); (case hg => rfl); (case hr => first | (go_simp; done) | (go_simp; rfl)); intro gb165 hg w10 hbox hb; have n0_ := Aside0.mk (below_step (bl_ HB.out) hb); have n1_ := Aside0.mk (hbox); have n2_ := Aside0.mk (szl_ hg HB.out); have n3_ := Aside0.mk (szl_ hg HB.out); clear HB; have HB := n0_; have BK165 := n1_; have GW165 := n2_; have GE165 := n3_; clear n0_ n1_ n2_ n3_ hb hbox hg) | ((with_reducible refine gate_dst (N := 5) rfl ?_); refine box_event ?hg (N := 5) ?hd (cs := #[.int .i64 a1_0, .int .i64 a1_1]) (t := 28) ?hr ?_; (case hd => rfl); (case hg => rfl); (case hr => first | (go_simp; done) | (go_simp; rfl)); intro gb166 hg w11 hbox hb; have n0_ := Aside0.mk (blk_below (bk_ BK165.out) hb); have n1_ := Aside0.mk (below_step (bl_ HB.out) hb); have n2_ := Aside0.mk (hbox); have n3_ := Aside0.mk (szl_ hg HB.out); have n4_ := Aside0.mk (szl_ hg HB.out); have n5_ := Aside0.mk (nel_ hg BK165.out); have n6_ := Aside0.mk (ner_ hg BK165.out); clear BK165 HB; have BK165 := n0_; have HB := n1_; have BK166 := n2_; have GW166 := n3_; have GE166 := n4_; have NB165_166 := n5_; have NB166_165 := n6_; clear n0_ n1_ n2_ n3_ n4_ n5_ n6_ hb hbox hg) | ((with_reducible refine gate_dst (N := 7) rfl ?_); refine box_event ?hg (N := 7) ?hd (cs := #[.int .i64 a3_0, .int .i64 a3_1]) (t := 27) ?hr ?_; (case hd => rfl); (case hg => rfl); (case hr => first | (go_simp; done) | (go_simp; rfl)); intro gb167 hg w12 hbox hb; have n0_ := Aside0.mk (blk_below (bk_ BK165.out) hb); have n1_ := Aside0.mk (blk_below (bk_ BK166.out) hb); have n2_ := Aside0.mk (below_step (bl_ HB.out) hb); have n3_ := Aside0.mk (hbox); have n4_ := Aside0.mk (szl_ hg HB.out); have n5_ := Aside0.mk (szl_ hg HB.out); have n6_ := Aside0.mk (nel_ hg BK165.out); have n7_ := Aside0.mk (ner_ hg BK165.out); have n8_ := Aside0.mk (nel_ hg BK166.out); have n9_ := Aside0.mk (ner_ hg BK166.out); clear BK165 BK166 HB; have BK165 := n0_; have BK166 := n1_; have HB := n2_; have BK167 := n3_; have GW167 := n4_; have GE167 := n5_; have NB165_167 := n6_; have NB167_165 := n7_; have NB166_167 := n8_; have NB167_166 := n9_; clear n0_ n1_ n2_ n3_ n4_ n5_ n6_ n7_ n8_ n9_ hb hbox hg; have hnb13 := NB165_166.out; have hnc13 := NB166_165.out; have hnb14 := NB165_167.out; have hnc14 := NB167_165.out; have hcz15_0 : w12.cell? ⟨gb165, 0, none⟩ = some (.int .i64 a0_0) := (blk_cell BK165.out 0).trans rfl; have hcz15_1 : w12.cell? ⟨gb165, 1, none⟩ = some (.int .i64 a0_1) := (blk_cell BK165.out 1).trans rfl; have hcz15_2 : w12.cell? ⟨gb165, 2, none⟩ = some (.int .i64 a0_2) := (blk_cell BK165.out 2).trans rfl; have hfz15_0 := blk_frozen BK165.out 0; have hfz15_1 := blk_frozen BK165.out 1; have hfz15_2 := blk_frozen BK165.out 2) | ((with_reducible refine gate_callee (f := 69) rfl ?_); refine goesL_ (some 16) rfl rfl Try.func69 (by kernel_rfl) rfl #[.agg #[.int .i64 a0_0, .int .i64 a0_1, .int .i64 a0_2]] rfl (by (try simp only [List.map_toArray, List.map_cons, List.map_nil]); first | done | rfl | (simp only [List.length_drop, List.length_take]; rfl)) ?_; (with_reducible refine (swashplateref07_Check.calls a0_0 a0_1 a0_2 t168 _ A5.out).mono ?_); rintro e w16 ⟨rfl, hb⟩; refine ⟨_, rfl, ?_⟩; have n0_ := Aside0.mk (blk_below (bk_ BK165.out) hb); have n1_ := Aside0.mk (blk_below (bk_ BK166.out) hb); have n2_ := Aside0.mk (blk_below (bk_ BK167.out) hb); have n3_ := Aside0.mk (below_step (bl_ HB.out) hb); clear BK165 BK166 BK167 HB; have BK165 := n0_; have BK166 := n1_; have BK167 := n2_; have HB := n3_; clear n0_ n1_ n2_ n3_; (try clear hb); (try clear hb2); (try clear hk); (try clear hi); have hnb17 := NB167_166.out; have hnc17 := NB166_167.out; have hcz18_0 : w16.cell? ⟨gb167, 0, none⟩ = some (.int .i64 a3_0) := (blk_cell BK167.out 0).trans rfl; have hcz18_1 : w16.cell? ⟨gb167, 1, none⟩ = some (.int .i64 a3_1) := (blk_cell BK167.out 1).trans rfl; have hfz18_0 := blk_frozen BK167.out 0; have hfz18_1 := blk_frozen BK167.out 1) | ((with_reducible refine gate_callee (f := 40) rfl ?_); refine goesL_ (some 21) rfl rfl Try.func40 (by kernel_rfl) rfl #[.agg #[.int .i64 a3_0, .int .i64 a3_1]] rfl (by (try simp only [List.map_toArray, List.map_cons, List.map_nil]); first | done | rfl | (simp only [List.length_drop, List.length_take]; rfl)) ?_; (with_reducible refine (swashplateref01_Valid.calls a3_0 a3_1 true _ A7.out).mono ?_); rintro e w19 ⟨rfl, hb⟩; refine ⟨_, rfl, ?_⟩; have n0_ := Aside0.mk (blk_below (bk_ BK165.out) hb); have n1_ := Aside0.mk (blk_below (bk_ BK166.out) hb); have n2_ := Aside0.mk (blk_below (bk_ BK167.out) hb); have n3_ := Aside0.mk (below_step (bl_ HB.out) hb); clear BK165 BK166 BK167 HB; have BK165 := n0_; have BK166 := n1_; have BK167 := n2_; have HB := n3_; clear n0_ n1_ n2_ n3_; (try clear hb); (try clear hb2); (try clear hk); (try clear hi)))
   (try simp only [Act.put, List.setIfInBounds_toArray, List.set_cons_zero, List.set_cons_succ])
   go_cut [30] (fun v30 wc => ∃ (kq : Nat) (x30_8 : Bool), v30 = .bool x30_8 ∧ Aside0 (swashplateref07_Calm.j0 kq a2 x30_8 a0_0 a0_1 a0_2 a1_0 a1_1 a3_0 a3_1 = some (r1, r2)) ∧ Aside0 (kq ≤ k) ∧ Aside0 (wc.heap[gb165]? = some (.cells #[.int .i64 a0_0, .int .i64 a0_1, .int .i64 a0_2] 105 (0, 0))) ∧ Aside0 (wc.heap[gb166]? = some (.cells #[.int .i64 a1_0, .int .i64 a1_1] 28 (0, 0))) ∧ Aside0 (wc.heap[gb167]? = some (.cells #[.int .i64 a3_0, .int .i64 a3_1] 27 (0, 0))) ∧ Aside0 (Below w.heap.size w wc))
   case first =>
    have H := HC9.out
    clear HC9
    replace H := Option.bind_eq_some_iff.mp H
    obtain ⟨t170, A200, H⟩ := H
    replace H : (if t170 = true then ((swashplateref07_within.f a2 0 16).bind fun t171 => (swashplateref07_Calm.j0 k a2 (!t171) a0_0 a0_1 a0_2 a1_0 a1_1 a3_0 a3_1)) else (swashplateref07_Calm.j0 k a2 true a0_0 a0_1 a0_2 a1_0 a1_1 a3_0 a3_1)) = some (r1, r2) := H
    have A20 := Aside0.mk A200
    clear A200
    by_cases c21 : t170 = true
    ·
     subst c21
     have H1 : ((swashplateref07_within.f a2 0 16).bind fun t171 => (swashplateref07_Calm.j0 k a2 (!t171) a0_0 a0_1 a0_2 a1_0 a1_1 a3_0 a3_1)) = some (r1, r2) := by rw [if_pos rfl] at H; exact H
     clear H
     have H := H1
     clear H1
     replace H := Option.bind_eq_some_iff.mp H
     obtain ⟨t171, A220, H⟩ := H
     replace H : (swashplateref07_Calm.j0 k a2 (!t171) a0_0 a0_1 a0_2 a1_0 a1_1 a3_0 a3_1) = some (r1, r2) := H
     have A22 := Aside0.mk A220
     clear A220
     have H' := Aside0.mk H
     clear H
     have hnb23 := NB166_165.out
     have hnc23 := NB165_166.out
     have hnb24 := NB166_167.out
     have hnc24 := NB167_166.out
     have hcz25_0 : w19.cell? ⟨gb166, 0, none⟩ = some (.int .i64 a1_0) := (blk_cell BK166.out 0).trans rfl
     have hcz25_1 : w19.cell? ⟨gb166, 1, none⟩ = some (.int .i64 a1_1) := (blk_cell BK166.out 1).trans rfl
     have hfz25_0 := blk_frozen BK166.out 0
     have hfz25_1 := blk_frozen BK166.out 1
     go_wp2_with (first | ((with_reducible refine gate_callee (f := 133) rfl ?_); refine goesL_ (some 24) rfl rfl Try.func133 (by kernel_rfl) rfl #[.agg #[.int .i64 a1_0, .int .i64 a1_1]] rfl (by (try simp only [List.map_toArray, List.map_cons, List.map_nil]); first | done | rfl | (simp only [List.length_drop, List.length_take]; rfl)) ?_; (with_reducible refine (swashplateref07_started.calls a1_0 a1_1 true _ A20.out).mono ?_); rintro e w26 ⟨rfl, hb⟩; refine ⟨_, rfl, ?_⟩; have n0_ := Aside0.mk (blk_below (bk_ BK165.out) hb); have n1_ := Aside0.mk (blk_below (bk_ BK166.out) hb); have n2_ := Aside0.mk (blk_below (bk_ BK167.out) hb); have n3_ := Aside0.mk (below_step (bl_ HB.out) hb); clear BK165 BK166 BK167 HB; have BK165 := n0_; have BK166 := n1_; have BK167 := n2_; have HB := n3_; clear n0_ n1_ n2_ n3_; (try clear hb); (try clear hb2); (try clear hk); (try clear hi)) | (go_at_call 128; (with_reducible refine (swashplateref07_within.calls a2 0 16 t171 _ A22.out).mono ?_); rintro e w' ⟨rfl, ⟨nd, rfl⟩⟩))
     go_meet
     case rel => exact ⟨_, (!t171), (by first | rfl | (simp; done) | (simp [*]; done)), H', ⟨by first | omega | exact Nat.le_refl _⟩, ⟨bk_ BK165.out⟩, ⟨bk_ BK166.out⟩, ⟨bk_ BK167.out⟩, ⟨bl_ HB.out⟩⟩
    ·
     replace c21 := Bool.eq_false_iff.mpr c21
     subst c21
     have H1 : (swashplateref07_Calm.j0 k a2 true a0_0 a0_1 a0_2 a1_0 a1_1 a3_0 a3_1) = some (r1, r2) := by rw [if_neg (show ¬ (false = true) by decide)] at H; exact H
     clear H
     have H := H1
     clear H1
     have H' := Aside0.mk H
     clear H
     have hnb27 := NB166_165.out
     have hnc27 := NB165_166.out
     have hnb28 := NB166_167.out
     have hnc28 := NB167_166.out
     have hcz29_0 : w19.cell? ⟨gb166, 0, none⟩ = some (.int .i64 a1_0) := (blk_cell BK166.out 0).trans rfl
     have hcz29_1 : w19.cell? ⟨gb166, 1, none⟩ = some (.int .i64 a1_1) := (blk_cell BK166.out 1).trans rfl
     have hfz29_0 := blk_frozen BK166.out 0
     have hfz29_1 := blk_frozen BK166.out 1
     go_wp2_with (first | ((with_reducible refine gate_callee (f := 133) rfl ?_); refine goesL_ (some 24) rfl rfl Try.func133 (by kernel_rfl) rfl #[.agg #[.int .i64 a1_0, .int .i64 a1_1]] rfl (by (try simp only [List.map_toArray, List.map_cons, List.map_nil]); first | done | rfl | (simp only [List.length_drop, List.length_take]; rfl)) ?_; (with_reducible refine (swashplateref07_started.calls a1_0 a1_1 false _ A20.out).mono ?_); rintro e w30 ⟨rfl, hb⟩; refine ⟨_, rfl, ?_⟩; have n0_ := Aside0.mk (blk_below (bk_ BK165.out) hb); have n1_ := Aside0.mk (blk_below (bk_ BK166.out) hb); have n2_ := Aside0.mk (blk_below (bk_ BK167.out) hb); have n3_ := Aside0.mk (below_step (bl_ HB.out) hb); clear BK165 BK166 BK167 HB; have BK165 := n0_; have BK166 := n1_; have BK167 := n2_; have HB := n3_; clear n0_ n1_ n2_ n3_; (try clear hb); (try clear hb2); (try clear hk); (try clear hi)))
     go_meet
     case rel => exact ⟨_, (true), (by first | rfl | (simp; done) | (simp [*]; done)), H', ⟨by first | omega | exact Nat.le_refl _⟩, ⟨bk_ BK165.out⟩, ⟨bk_ BK166.out⟩, ⟨bk_ BK167.out⟩, ⟨bl_ HB.out⟩⟩
   case rest =>
    clear HC9
    try clear c1
    try clear c2
    try clear p2
    try clear c4
    try clear c6
    try clear c6b0
    try clear c6b1
    try clear c7
    try clear c8
    try clear c13
    try clear c14
    try clear c17
    try clear c21
    try clear c23
    try clear c24
    try clear c27
    try clear c28
    try clear hcz15_0
    try clear hcz15_1
    try clear hcz15_2
    try clear hcz18_0
    try clear hcz18_1
    try clear hcz25_0
    try clear hcz25_1
    try clear hcz29_0
    try clear hcz29_1
    try clear hfz15_0
    try clear hfz15_1
    try clear hfz15_2
    try clear hfz18_0
    try clear hfz18_1
    try clear hfz25_0
    try clear hfz25_1
    try clear hfz29_0
    try clear hfz29_1
    obtain ⟨kq, x30_8, rfl, HA, HJ8, BK165, BK166, BK167, HB⟩ := hcut
    cases kq with
    | zero => exact absurd HA.out (by simp [swashplateref07_Calm.j0])
    | succ kj8 =>
     have H := HA.out
     clear HA
     simp only [swashplateref07_Calm.j0] at H
     by_cases c31 : x30_8 = true
     ·
      subst c31
      have H1 : (some (0, 1)) = some (r1, r2) := by rw [if_pos rfl] at H; exact H
      clear H
      have H := H1
      clear H1
      simp only [Option.some.injEq, Prod.mk.injEq] at H
      obtain ⟨rfl, rfl⟩ := H
      go_wp2
      go_ret2
      exact ⟨by first | rfl | (simp [errW_none, errW_some] <;> rfl) | (simp [*, errW_none, errW_some] <;> rfl), bl_ HB.out⟩
     ·
      replace c31 := Bool.eq_false_iff.mpr c31
      subst c31
      have H1 : (if 0 ≤ a2 then (if (a2 : Int).toNat ≤ 35184372088832 then ((swashplateref07_swung.f kj8 a0_0 a0_1 a0_2 a1_0 a1_1 (List.replicate (a2 : Int).toNat 0)).bind fun t175 => (swashplateref07_Calm.l0 kj8 t175 (-1) a2 a0_0 a0_1 a0_2 a3_0 a3_1)) else (none)) else (none)) = some (r1, r2) := by rw [if_neg (show ¬ (false = true) by decide)] at H; exact H
      clear H
      have H := H1
      clear H1
      by_cases c32 : 0 ≤ a2
      ·
       rw [if_pos c32] at H
       have c32b0 := eq_true c32
       have c32b1 : decide (0 ≤ a2) = true := decide_eq_true c32
       clear c32
       by_cases c33 : (a2 : Int).toNat ≤ 35184372088832
       ·
        rw [if_pos c33] at H
        have c33b0 := eq_true c33
        have c33b1 : decide ((a2 : Int).toNat ≤ 35184372088832) = true := decide_eq_true c33
        clear c33
        obtain ⟨y172, hy172⟩ : ∃ y_ : List Int, y_ = (List.replicate (a2 : Int).toNat 0) := ⟨_, rfl⟩
        replace H : ((swashplateref07_swung.f kj8 a0_0 a0_1 a0_2 a1_0 a1_1 y172).bind fun t175 => (swashplateref07_Calm.l0 kj8 t175 (-1) a2 a0_0 a0_1 a0_2 a3_0 a3_1)) = some (r1, r2) := by first | (rw [hy172]; with_reducible exact H) | (have H2_ := (Option.bind_some _ _).symm.trans H; rw [hy172]; with_reducible exact H2_) | (have H2_ := (Option.bind_some _ _).symm.trans H; with_reducible exact H2_) | with_reducible exact H | (rw [hy172]; exact H) | exact H
        have Ny172 := Aside0.mk hy172
        clear hy172
        replace H := Option.bind_eq_some_iff.mp H
        obtain ⟨t175, A340, H⟩ := H
        replace H : (swashplateref07_Calm.l0 kj8 t175 (-1) a2 a0_0 a0_1 a0_2 a3_0 a3_1) = some (r1, r2) := H
        have A34 := Aside0.mk A340
        clear A340
        have H' := Aside0.mk H
        clear H
        try go_wp2
        have n0_ := Aside0.mk (blk_drew BK165.out)
        have n1_ := Aside0.mk (blk_drew BK166.out)
        have n2_ := Aside0.mk (blk_drew BK167.out)
        have n3_ := Aside0.mk (below_drew1 HB.out)
        clear BK165 BK166 BK167 HB
        have BK165 := n0_
        have BK166 := n1_
        have BK167 := n2_
        have HB := n3_
        clear n0_ n1_ n2_ n3_
        refine start_ (n := 9) (S := fun w' => w'.cell? ⟨gb165, 0, none⟩ = some (.int .i64 a0_0) ∧ w'.cell? ⟨gb165, 1, none⟩ = some (.int .i64 a0_1) ∧ w'.cell? ⟨gb165, 2, none⟩ = some (.int .i64 a0_2) ∧ w'.cell? ⟨gb166, 0, none⟩ = some (.int .i64 a1_0) ∧ w'.cell? ⟨gb166, 1, none⟩ = some (.int .i64 a1_1)) (ds := []) #[false, false, false, false, false, false, false, false, false] (by kernel_rfl) rfl rfl ⟨(blk_cell BK165.out 0).trans rfl, (blk_cell BK165.out 1).trans rfl, (blk_cell BK165.out 2).trans rfl, (blk_cell BK166.out 0).trans rfl, (blk_cell BK166.out 1).trans rfl⟩ (fun hHeld => ?_); refine with_tabW swashplateref07_Calm.tab8 swashplateref07_Calm.bits8 (fun HT_ HW_ => ?_)
        generalize wc.drew = w35 at BK165 BK166 BK167 HB hHeld ⊢
        refine pure_ (i := 1) (N := some 32) (v := ?_) (a' := ?_) #[false, true, false, false, false, false, false, false, false] rfl rfl (any_of HT_.out (by kernel_rfl)) (fun _ _ _ h => h) (Or.inl ⟨by rfl, ?_⟩) ?_ ?_
        rotate_left
        ·
         intro w'
         go_simp
         with_reducible rfl
        rotate_left
        ·
         simp only [Act.put, List.setIfInBounds_toArray, List.set_cons_zero, List.set_cons_succ, i64_w, i32_w]
         rfl
        refine pure_ (i := 3) (N := some 34) (v := ?_) (a' := ?_) #[false, true, false, true, false, false, false, false, false] rfl rfl (any_of HT_.out (by kernel_rfl)) (fun _ _ _ h => h) (Or.inl ⟨by rfl, ?_⟩) ?_ ?_
        rotate_left
        ·
         intro w'
         go_simp
         with_reducible rfl
        rotate_left
        ·
         simp only [Act.put, List.setIfInBounds_toArray, List.set_cons_zero, List.set_cons_succ, i64_w, i32_w]
         rfl
        refine pure_ (i := 5) (N := some 36) (v := ?_) (a' := ?_) #[false, true, false, true, false, true, false, false, false] rfl rfl (any_of HT_.out (by kernel_rfl)) (fun _ _ _ h => h) (Or.inl ⟨by rfl, ?_⟩) ?_ ?_
        rotate_left
        ·
         intro w'
         go_simp
         with_reducible rfl
        rotate_left
        ·
         simp only [Act.put, List.setIfInBounds_toArray, List.set_cons_zero, List.set_cons_succ, i64_w, i32_w]
         rfl
        refine take_ (i := 0) (N := some 31) (v := ?_) (a' := ?_) #[true, true, false, true, false, true, false, false, false] rfl rfl (take_ofW HT_.out HW_.out (by kernel_rfl)) (fun _ _ _ h => h) (Or.inl ⟨by rfl, ?_⟩) hHeld ?_ ?_
        rotate_left
        ·
         rintro w' ⟨s0, s1, s2, s3, s4⟩
         go_simp
         with_reducible rfl
        rotate_left
        ·
         simp only [Act.put, List.setIfInBounds_toArray, List.set_cons_zero, List.set_cons_succ, i64_w, i32_w]
         rfl
        refine take_ (i := 2) (N := some 33) (v := ?_) (a' := ?_) #[true, true, true, true, false, true, false, false, false] rfl rfl (take_ofW HT_.out HW_.out (by kernel_rfl)) (fun _ _ _ h => h) (Or.inl ⟨by rfl, ?_⟩) hHeld ?_ ?_
        rotate_left
        ·
         rintro w' ⟨s0, s1, s2, s3, s4⟩
         go_simp
         with_reducible rfl
        rotate_left
        ·
         simp only [Act.put, List.setIfInBounds_toArray, List.set_cons_zero, List.set_cons_succ, i64_w, i32_w]
         rfl
        refine take_ (i := 4) (N := some 35) (v := ?_) (a' := ?_) #[true, true, true, true, true, true, false, false, false] rfl rfl (take_ofW HT_.out HW_.out (by kernel_rfl)) (fun _ _ _ h => h) (Or.inl ⟨by rfl, ?_⟩) hHeld ?_ ?_
        rotate_left
        ·
         rintro w' ⟨s0, s1, s2, s3, s4⟩
         go_simp
         with_reducible rfl
        rotate_left
        ·
         simp only [Act.put, List.setIfInBounds_toArray, List.set_cons_zero, List.set_cons_succ, i64_w, i32_w]
         rfl
        refine one_ (i := 6) (N := some 37) #[true, true, true, true, true, true, true, false, false] rfl rfl (one_of HT_.out (by kernel_rfl)) (by decide) (fun K hK => ?_)
        refine Kd.R_make_step (Kd.int .i64) _ 3 (by rfl) (N := 37) rfl 22 _ _ rfl a2 rfl rfl Try.underlying22 (.int .i64 0) 8 info3 rfl (by decide) (by omega) 0 (ok := fun _ => True) (okp := fun _ => True) rfl (fun _ hk => hk) trivial (of_decide_eq_true (by first | (with_reducible assumption) | assumption)) (Nat.le_trans (Nat.mul_le_mul_right _ (of_decide_eq_true (by first | (with_reducible assumption) | assumption) : a2.toNat ≤ 35184372088832)) (by omega)) (Below.refl _ _) (Nat.le_refl _) ?_
        intro v173 w36 ho37 hb hg_ hnew_
        clear hg_ hnew_
        (first | rw [← Ny172.out] at ho37 | (simp only [Int.reduceToNat] at ho37; rw [← Ny172.out] at ho37))
        have n0_ := Aside0.mk (Kd.R_lower ho37 (below_size (bl_ HB.out)))
        have n1_ := Aside0.mk (blk_below (bk_ BK165.out) hb)
        have n2_ := Aside0.mk (blk_below (bk_ BK166.out) hb)
        have n3_ := Aside0.mk (blk_below (bk_ BK167.out) hb)
        have n4_ := Aside0.mk (below_step (bl_ HB.out) hb)
        clear BK165 BK166 BK167 HB
        have HO174 := n0_
        have BK165 := n1_
        have BK166 := n2_
        have BK167 := n3_
        have HB := n4_
        clear n0_ n1_ n2_ n3_ n4_ hb ho37
        obtain ⟨Ao38, co38, eo38⟩ := Kd.R_slice HO174.out
        (first | subst eo38 | (injection eo38 with f1_ f2_ f3_; have f4_ := f1_.symm; have f5_ := f3_.symm; clear f1_ f2_ f3_; subst f4_; subst f5_))
        refine hK.out _ _ ⟨(blk_cell BK165.out 0).trans rfl, (blk_cell BK165.out 1).trans rfl, (blk_cell BK165.out 2).trans rfl, (blk_cell BK166.out 0).trans rfl, (blk_cell BK166.out 1).trans rfl⟩ (fun hHeld => ?_)
        clear hK K
        refine norm_ (a' := ?_) ?_ ?_
        rotate_left
        ·
         show Act.put _ (some 37) _ = _
         simp only [Act.put, List.setIfInBounds_toArray, List.set_cons_zero, List.set_cons_succ, i64_w, i32_w]
         rfl
        refine one_ (i := 7) (N := some 38) #[true, true, true, true, true, true, true, true, false] rfl rfl (one_of HT_.out (by kernel_rfl)) (by decide) (fun K hK => ?_)
        refine goes_ Try.func134 (by kernel_rfl) rfl #[.agg #[.int .i64 a0_0, .int .i64 a0_1, .int .i64 a0_2], .int .i64 a1_0, .int .i64 a1_1, .slice Ao38 y172.length co38] (by rfl) rfl rfl (by (try simp only [List.map_toArray, List.map_cons, List.map_nil]); first | done | rfl | (simp only [List.length_drop, List.length_take]; rfl)) ?_
        with_reducible refine (swashplateref07_swung.calls kj8 a0_0 a0_1 a0_2 a1_0 a1_1 _ _ y172 t175 _ ?side1 ?side2 A34.out).mono ?_
        (case side1 => exact cr_ (Kd.R_reads' HO174.out).2.2)
        (case side2 => exact (Kd.R_reads' HO174.out).2.1)
        rintro e w39 ⟨v176, rfl, ho0, hb⟩
        refine ⟨_, rfl, ?_⟩
        have n0_ := Aside0.mk (Kd.R_elder' (by (with_reducible repeat (first | apply Kd.R_alloc | apply Kd.R_drewN | apply Kd.R_drew)); exact HO174.out) (Kd.R_base ho0) hb)
        have n1_ := Aside0.mk (Kd.R_lower (Kd.R_new' ho0 (Kd.R_lt (by (with_reducible repeat (first | apply Kd.R_alloc | apply Kd.R_drewN | apply Kd.R_drew)); exact HO174.out))) (below_size (bl_ HB.out)))
        have n2_ := Aside0.mk (blk_below (bk_ BK165.out) hb)
        have n3_ := Aside0.mk (blk_below (bk_ BK166.out) hb)
        have n4_ := Aside0.mk (blk_below (bk_ BK167.out) hb)
        have n5_ := Aside0.mk (below_step (bl_ HB.out) hb)
        clear HO174 BK165 BK166 BK167 HB
        have HO174 := n0_
        have HO177 := n1_
        have BK165 := n2_
        have BK166 := n3_
        have BK167 := n4_
        have HB := n5_
        clear n0_ n1_ n2_ n3_ n4_ n5_
        (try clear hb)
        (try clear hb2)
        (try clear hk)
        (try clear hi)
        (try clear ho0)
        refine hK.out _ _ ⟨(blk_cell BK165.out 0).trans rfl, (blk_cell BK165.out 1).trans rfl, (blk_cell BK165.out 2).trans rfl, (blk_cell BK166.out 0).trans rfl, (blk_cell BK166.out 1).trans rfl⟩ (fun hHeld => ?_)
        clear hK K
        refine norm_ (a' := ?_) ?_ ?_
        rotate_left
        ·
         show Act.put _ (some 38) _ = _
         simp only [Act.put, List.setIfInBounds_toArray, List.set_cons_zero, List.set_cons_succ, i64_w, i32_w]
         rfl
        refine pure_ (i := 8) (N := some 11) (v := ?_) (a' := ?_) #[true, true, true, true, true, true, true, true, true] rfl rfl (any_of HT_.out (by kernel_rfl)) (fun _ _ _ h => h) (Or.inl ⟨by rfl, ?_⟩) ?_ ?_
        rotate_left
        ·
         intro w'
         go_simp
         with_reducible rfl
        rotate_left
        ·
         simp only [Act.put, List.setIfInBounds_toArray, List.set_cons_zero, List.set_cons_succ, i64_w, i32_w]
         rfl
        refine done_ (done_of HT_.out (by kernel_rfl)) ?_
        try go_wp2
        go_loopg [12, 13] kj8 (fun kq v12 v13 w' => ∃ (x12_2 : Int) (x13_2 : Int), v12 = .int .i64 x12_2 ∧ v13 = .int .i64 x13_2 ∧ Aside0 (swashplateref07_Calm.l0 kq t175 x12_2 x13_2 a0_0 a0_1 a0_2 a3_0 a3_1 = some (r1, r2)) ∧ Aside0 (kq ≤ kj8) ∧ Aside0 (Kd.R (Kd.int .i64) 3 w' w.heap.size (fun _ => True) v176 t175) ∧ Aside0 (w'.heap[gb165]? = some (.cells #[.int .i64 a0_0, .int .i64 a0_1, .int .i64 a0_2] 105 (0, 0))) ∧ Aside0 (w'.heap[gb166]? = some (.cells #[.int .i64 a1_0, .int .i64 a1_1] 28 (0, 0))) ∧ Aside0 (w'.heap[gb167]? = some (.cells #[.int .i64 a3_0, .int .i64 a3_1] 27 (0, 0))) ∧ Aside0 (Below w.heap.size w w'))
        case atStart => exact ⟨((-1)), (a2), (by first | rfl | (simp; done) | (simp [*]; done)), (by first | rfl | (simp; done) | (simp [*]; done)), H', ⟨Nat.le_refl _⟩, ⟨by (with_reducible repeat (first | apply Kd.R_alloc | apply Kd.R_drewN | apply Kd.R_drew)); exact Kd.R_mono HO177.out (fun _ hk => trivial)⟩, ⟨bk_ BK165.out⟩, ⟨bk_ BK166.out⟩, ⟨bk_ BK167.out⟩, ⟨bl_ HB.out⟩⟩
        case round =>
         clear H'
         try clear c1
         try clear c2
         try clear p2
         try clear c3
         try clear c4
         try clear c6
         try clear c6b0
         try clear c6b1
         try clear c7
         try clear c8
         try clear c13
         try clear c14
         try clear c17
         try clear c21
         try clear c23
         try clear c24
         try clear c27
         try clear c28
         try clear c31
         try clear c32
         try clear c32b0
         try clear c32b1
         try clear c33
         try clear c33b0
         try clear c33b1
         try clear hcz15_0
         try clear hcz15_1
         try clear hcz15_2
         try clear hcz18_0
         try clear hcz18_1
         try clear hcz25_0
         try clear hcz25_1
         try clear hcz29_0
         try clear hcz29_1
         try clear hfz15_0
         try clear hfz15_1
         try clear hfz15_2
         try clear hfz18_0
         try clear hfz18_1
         try clear hfz25_0
         try clear hfz25_1
         try clear hfz29_0
         try clear hfz29_1
         try clear p2
         obtain ⟨x12_2, x13_2, rfl, rfl, HA, HK2, HO_11, BK165, BK166, BK167, HB⟩ := hrel
         cases gk with
         | zero => exact absurd HA.out (by simp [swashplateref07_Calm.l0])
         | succ k2 =>
          have H := HA.out
          clear HA
          simp only [swashplateref07_Calm.l0] at H
          by_cases c40 : x13_2 ≥ 0
          ·
           rw [if_pos c40] at H
           have c40b0 : decide (0 ≤ x13_2) = true := decide_eq_true c40
           clear c40
           replace H := Option.bind_eq_some_iff.mp H
           obtain ⟨t178, A410, H⟩ := H
           replace H : (if 0 ≤ x13_2 then (if x13_2 < (t175.length : Int) then (if (rd t175 x13_2) < (wrap64 (a3_0 * t178)) then (if x12_2 < 0 then (some (0, 3)) else (some (x12_2, 0))) else (if (rd t175 x13_2) > (wrap64 (a3_1 * t178)) then (if x12_2 < 0 then (some (0, 3)) else (some (x12_2, 0))) else (swashplateref07_Calm.l0 k2 t175 x13_2 (wrap64 (x13_2 - 1)) a0_0 a0_1 a0_2 a3_0 a3_1))) else (none)) else (none)) = some (r1, r2) := H
           have A41 := Aside0.mk A410
           clear A410
           by_cases c42 : 0 ≤ x13_2
           ·
            rw [if_pos c42] at H
            have c42b0 : decide (0 ≤ x13_2) = true := decide_eq_true c42
            clear c42
            by_cases c43 : x13_2 < (t175.length : Int)
            ·
             rw [if_pos c43] at H
             have c43b0 : decide (x13_2 < (t175.length : Int)) = true := decide_eq_true c43
             clear c43
             by_cases c44 : (rd t175 x13_2) < (wrap64 (a3_0 * t178))
             ·
              rw [if_pos c44] at H
              have c44b0 : decide ((rd t175 x13_2) < (wrap64 (a3_0 * t178))) = true := decide_eq_true c44
              clear c44
              by_cases c45 : x12_2 < 0
              ·
               rw [if_pos c45] at H
               have c45b0 : decide (x12_2 < 0) = true := decide_eq_true c45
               clear c45
               simp only [Option.some.injEq, Prod.mk.injEq] at H
               obtain ⟨rfl, rfl⟩ := H
               have hnb46 := NB165_166.out
               have hnc46 := NB166_165.out
               have hnb47 := NB165_167.out
               have hnc47 := NB167_165.out
               have hcz48_0 : wr.cell? ⟨gb165, 0, none⟩ = some (.int .i64 a0_0) := (blk_cell BK165.out 0).trans rfl
               have hcz48_1 : wr.cell? ⟨gb165, 1, none⟩ = some (.int .i64 a0_1) := (blk_cell BK165.out 1).trans rfl
               have hcz48_2 : wr.cell? ⟨gb165, 2, none⟩ = some (.int .i64 a0_2) := (blk_cell BK165.out 2).trans rfl
               have hfz48_0 := blk_frozen BK165.out 0
               have hfz48_1 := blk_frozen BK165.out 1
               have hfz48_2 := blk_frozen BK165.out 2
               try go_wp2_with (first | ((with_reducible refine gate_callee (f := 136) rfl ?_); refine goesL_ (some 47) rfl rfl Try.func136 (by kernel_rfl) rfl #[.int .i64 a0_2, .int .i64 x13_2] rfl (by (try simp only [List.map_toArray, List.map_cons, List.map_nil]); first | done | rfl | (simp only [List.length_drop, List.length_take]; rfl)) ?_; (with_reducible refine (swashplateref07_power.calls k2 a0_2 x13_2 t178 _ A41.out).mono ?_); rintro e w' ⟨rfl, ⟨nd, rfl⟩⟩; refine ⟨_, rfl, ?_⟩))
               (try (rw [drewN_self wr]; generalize hq_ : World.drewN wr _ = wr; have n0_ : Aside0 (Kd.R (Kd.int .i64) 3 wr w.heap.size (fun _ => True) v176 t175) := ⟨by rw [← hq_]; exact (by (with_reducible repeat (first | apply Kd.R_alloc | apply Kd.R_drewN | apply Kd.R_drew)); exact HO_11.out)⟩; have n1_ : Aside0 (wr.heap[gb165]? = some (.cells #[.int .i64 a0_0, .int .i64 a0_1, .int .i64 a0_2] 105 (0, 0))) := ⟨by rw [← hq_]; exact (bk_ BK165.out)⟩; have n2_ : Aside0 (wr.heap[gb166]? = some (.cells #[.int .i64 a1_0, .int .i64 a1_1] 28 (0, 0))) := ⟨by rw [← hq_]; exact (bk_ BK166.out)⟩; have n3_ : Aside0 (wr.heap[gb167]? = some (.cells #[.int .i64 a3_0, .int .i64 a3_1] 27 (0, 0))) := ⟨by rw [← hq_]; exact (bk_ BK167.out)⟩; have n4_ : Aside0 (Below w.heap.size w wr) := ⟨by rw [← hq_]; exact (bl_ HB.out)⟩; clear HO_11 BK165 BK166 BK167 HB hq_; have HO_11 := n0_; have BK165 := n1_; have BK166 := n2_; have BK167 := n3_; have HB := n4_; clear n0_ n1_ n2_ n3_ n4_))
               have n0_ := Aside0.mk (Kd.R_drew HO_11.out)
               have n1_ := Aside0.mk (blk_drew BK165.out)
               have n2_ := Aside0.mk (blk_drew BK166.out)
               have n3_ := Aside0.mk (blk_drew BK167.out)
               have n4_ := Aside0.mk (below_drew1 HB.out)
               clear HO_11 BK165 BK166 BK167 HB
               have HO_11 := n0_
               have BK165 := n1_
               have BK166 := n2_
               have BK167 := n3_
               have HB := n4_
               clear n0_ n1_ n2_ n3_ n4_
               obtain ⟨Ao50, co50, eo50⟩ := Kd.R_slice HO_11.out
               (first | subst eo50 | (injection eo50 with f1_ f2_ f3_; have f4_ := f1_.symm; have f5_ := f3_.symm; clear f1_ f2_ f3_; subst f4_; subst f5_))
               have p179 : 0 ≤ (x13_2 : Int) := of_decide_eq_true (by first | (with_reducible assumption) | assumption)
               have q179 : x13_2 < (t175.length : Int) := of_decide_eq_true (by first | (with_reducible assumption) | assumption)
               obtain ⟨ad179, e179, hx179_0⟩ := Kd.at_int (Kd.R_reads' HO_11.out).2.2 x13_2 p179 q179
               cases e179
               replace p179 := eq_true p179
               replace q179 := eq_true q179
               refine start_ (n := 20) (S := fun w' => w'.cell? ⟨gb167, 0, none⟩ = some (.int .i64 a3_0) ∧ w'.cell? ⟨gb167, 1, none⟩ = some (.int .i64 a3_1) ∧ w'.cell? (ad179.add (x13_2).toNat) = some (.int .i64 (rd t175 x13_2))) (ds := []) #[false, false, false, false, false, false, false, false, false, false, false, false, false, false, false, false, false, false, false, false] (by kernel_rfl) rfl rfl ⟨(blk_cell BK167.out 0).trans rfl, (blk_cell BK167.out 1).trans rfl, hx179_0⟩ (fun hHeld => ?_); refine with_tabW swashplateref07_Calm.tab14 swashplateref07_Calm.bits14 (fun HT_ HW_ => ?_)
               generalize wr.drew = w49 at HO_11 BK165 BK166 BK167 HB hx179_0 hHeld ⊢
               refine pure_ (i := 0) (N := some 48) (v := ?_) (a' := ?_) #[true, false, false, false, false, false, false, false, false, false, false, false, false, false, false, false, false, false, false, false] rfl rfl (any_of HT_.out (by kernel_rfl)) (fun _ _ _ h => h) (Or.inl ⟨by rfl, ?_⟩) ?_ ?_
               rotate_left
               ·
                intro w'
                go_simp
                with_reducible rfl
               rotate_left
               ·
                simp only [Act.put, List.setIfInBounds_toArray, List.set_cons_zero, List.set_cons_succ, i64_w, i32_w]
                rfl
               refine pure_ (i := 1) (N := some 49) (v := ?_) (a' := ?_) #[true, true, false, false, false, false, false, false, false, false, false, false, false, false, false, false, false, false, false, false] rfl rfl (any_of HT_.out (by kernel_rfl)) (fun _ _ _ h => h) (Or.inl ⟨by rfl, ?_⟩) ?_ ?_
               rotate_left
               ·
                intro w'
                go_simp
                with_reducible rfl
               rotate_left
               ·
                simp only [Act.put, List.setIfInBounds_toArray, List.set_cons_zero, List.set_cons_succ, i64_w, i32_w]
                rfl
               refine pure_ (i := 2) (N := some 50) (v := ?_) (a' := ?_) #[true, true, true, false, false, false, false, false, false, false, false, false, false, false, false, false, false, false, false, false] rfl rfl (any_of HT_.out (by kernel_rfl)) (fun _ _ _ h => h) (Or.inl ⟨by rfl, ?_⟩) ?_ ?_
               rotate_left
               ·
                intro w'
                go_simp
                with_reducible rfl
               rotate_left
               ·
                simp only [Act.put, List.setIfInBounds_toArray, List.set_cons_zero, List.set_cons_succ, i64_w, i32_w]
                rfl
               refine pure_ (i := 4) (N := some 52) (v := ?_) (a' := ?_) #[true, true, true, false, true, false, false, false, false, false, false, false, false, false, false, false, false, false, false, false] rfl rfl (any_of HT_.out (by kernel_rfl)) (fun _ _ _ h => h) (Or.inl ⟨by rfl, ?_⟩) ?_ ?_
               rotate_left
               ·
                intro w'
                go_simp
                with_reducible rfl
               rotate_left
               ·
                simp only [Act.put, List.setIfInBounds_toArray, List.set_cons_zero, List.set_cons_succ, i64_w, i32_w]
                rfl
               refine pure_ (i := 6) (N := some 54) (v := ?_) (a' := ?_) #[true, true, true, false, true, false, true, false, false, false, false, false, false, false, false, false, false, false, false, false] rfl rfl (any_of HT_.out (by kernel_rfl)) (fun _ _ _ h => h) (Or.inl ⟨by rfl, ?_⟩) ?_ ?_
               rotate_left
               ·
                intro w'
                go_simp
                with_reducible rfl
               rotate_left
               ·
                simp only [Act.put, List.setIfInBounds_toArray, List.set_cons_zero, List.set_cons_succ, i64_w, i32_w]
                rfl
               refine take_ (i := 3) (N := some 51) (v := ?_) (a' := ?_) #[true, true, true, true, true, false, true, false, false, false, false, false, false, false, false, false, false, false, false, false] rfl rfl (take_ofW HT_.out HW_.out (by kernel_rfl)) (fun _ _ _ h => h) (Or.inl ⟨by rfl, ?_⟩) hHeld ?_ ?_
               rotate_left
               ·
                rintro w' ⟨s0, s1, s2⟩
                go_simp
                with_reducible rfl
               rotate_left
               ·
                simp only [Act.put, List.setIfInBounds_toArray, List.set_cons_zero, List.set_cons_succ, i64_w, i32_w]
                rfl
               refine take_ (i := 5) (N := some 53) (v := ?_) (a' := ?_) #[true, true, true, true, true, true, true, false, false, false, false, false, false, false, false, false, false, false, false, false] rfl rfl (take_ofW HT_.out HW_.out (by kernel_rfl)) (fun _ _ _ h => h) (Or.inl ⟨by rfl, ?_⟩) hHeld ?_ ?_
               rotate_left
               ·
                rintro w' ⟨s0, s1, s2⟩
                go_simp
                with_reducible rfl
               rotate_left
               ·
                simp only [Act.put, List.setIfInBounds_toArray, List.set_cons_zero, List.set_cons_succ, i64_w, i32_w]
                rfl
               refine pure_ (i := 7) (N := some 55) (v := ?_) (a' := ?_) #[true, true, true, true, true, true, true, true, false, false, false, false, false, false, false, false, false, false, false, false] rfl rfl (any_of HT_.out (by kernel_rfl)) (fun _ _ _ h => h) (Or.inl ⟨by rfl, ?_⟩) ?_ ?_
               rotate_left
               ·
                intro w'
                go_simp
                with_reducible rfl
               rotate_left
               ·
                simp only [Act.put, List.setIfInBounds_toArray, List.set_cons_zero, List.set_cons_succ, i64_w, i32_w]
                rfl
               refine pure_ (i := 8) (N := some 56) (v := ?_) (a' := ?_) #[true, true, true, true, true, true, true, true, true, false, false, false, false, false, false, false, false, false, false, false] rfl rfl (any_of HT_.out (by kernel_rfl)) (fun _ _ _ h => h) (Or.inl ⟨by rfl, ?_⟩) ?_ ?_
               rotate_left
               ·
                intro w'
                go_simp
                with_reducible rfl
               rotate_left
               ·
                simp only [Act.put, List.setIfInBounds_toArray, List.set_cons_zero, List.set_cons_succ, i64_w, i32_w]
                rfl
               refine pure_ (i := 9) (N := some 57) (v := ?_) (a' := ?_) #[true, true, true, true, true, true, true, true, true, true, false, false, false, false, false, false, false, false, false, false] rfl rfl (any_of HT_.out (by kernel_rfl)) (fun _ _ _ h => h) (Or.inl ⟨by rfl, ?_⟩) ?_ ?_
               rotate_left
               ·
                intro w'
                go_simp
                with_reducible rfl
               rotate_left
               ·
                simp only [Act.put, List.setIfInBounds_toArray, List.set_cons_zero, List.set_cons_succ, i64_w, i32_w]
                rfl
               refine pure_ (i := 10) (N := some 58) (v := undef) (a' := ?_) #[true, true, true, true, true, true, true, true, true, true, true, false, false, false, false, false, false, false, false, false] rfl rfl (any_of HT_.out (by kernel_rfl)) (fun _ _ _ h => h) (Or.inr ⟨by rfl, rfl⟩) ?_ ?_
               rotate_left
               ·
                simp only [Act.put, List.setIfInBounds_toArray, List.set_cons_zero, List.set_cons_succ, i64_w, i32_w]
                rfl
               refine pure_ (i := 11) (N := some 59) (v := undef) (a' := ?_) #[true, true, true, true, true, true, true, true, true, true, true, true, false, false, false, false, false, false, false, false] rfl rfl (any_of HT_.out (by kernel_rfl)) (fun _ _ _ h => h) (Or.inr ⟨by rfl, rfl⟩) ?_ ?_
               rotate_left
               ·
                simp only [Act.put, List.setIfInBounds_toArray, List.set_cons_zero, List.set_cons_succ, i64_w, i32_w]
                rfl
               refine pure_ (i := 12) (N := some 60) (v := undef) (a' := ?_) #[true, true, true, true, true, true, true, true, true, true, true, true, true, false, false, false, false, false, false, false] rfl rfl (any_of HT_.out (by kernel_rfl)) (fun _ _ _ h => h) (Or.inr ⟨by rfl, rfl⟩) ?_ ?_
               rotate_left
               ·
                simp only [Act.put, List.setIfInBounds_toArray, List.set_cons_zero, List.set_cons_succ, i64_w, i32_w]
                rfl
               refine pure_ (i := 13) (N := some 61) (v := undef) (a' := ?_) #[true, true, true, true, true, true, true, true, true, true, true, true, true, true, false, false, false, false, false, false] rfl rfl (any_of HT_.out (by kernel_rfl)) (fun _ _ _ h => h) (Or.inr ⟨by rfl, rfl⟩) ?_ ?_
               rotate_left
               ·
                simp only [Act.put, List.setIfInBounds_toArray, List.set_cons_zero, List.set_cons_succ, i64_w, i32_w]
                rfl
               refine pure_ (i := 14) (N := some 62) (v := undef) (a' := ?_) #[true, true, true, true, true, true, true, true, true, true, true, true, true, true, true, false, false, false, false, false] rfl rfl (any_of HT_.out (by kernel_rfl)) (fun _ _ _ h => h) (Or.inr ⟨by rfl, rfl⟩) ?_ ?_
               rotate_left
               ·
                simp only [Act.put, List.setIfInBounds_toArray, List.set_cons_zero, List.set_cons_succ, i64_w, i32_w]
                rfl
               refine pure_ (i := 15) (N := some 63) (v := undef) (a' := ?_) #[true, true, true, true, true, true, true, true, true, true, true, true, true, true, true, true, false, false, false, false] rfl rfl (any_of HT_.out (by kernel_rfl)) (fun _ _ _ h => h) (Or.inr ⟨by rfl, rfl⟩) ?_ ?_
               rotate_left
               ·
                simp only [Act.put, List.setIfInBounds_toArray, List.set_cons_zero, List.set_cons_succ, i64_w, i32_w]
                rfl
               refine pure_ (i := 16) (N := some 64) (v := undef) (a' := ?_) #[true, true, true, true, true, true, true, true, true, true, true, true, true, true, true, true, true, false, false, false] rfl rfl (any_of HT_.out (by kernel_rfl)) (fun _ _ _ h => h) (Or.inr ⟨by rfl, rfl⟩) ?_ ?_
               rotate_left
               ·
                simp only [Act.put, List.setIfInBounds_toArray, List.set_cons_zero, List.set_cons_succ, i64_w, i32_w]
                rfl
               refine pure_ (i := 17) (N := some 65) (v := undef) (a' := ?_) #[true, true, true, true, true, true, true, true, true, true, true, true, true, true, true, true, true, true, false, false] rfl rfl (any_of HT_.out (by kernel_rfl)) (fun _ _ _ h => h) (Or.inr ⟨by rfl, rfl⟩) ?_ ?_
               rotate_left
               ·
                simp only [Act.put, List.setIfInBounds_toArray, List.set_cons_zero, List.set_cons_succ, i64_w, i32_w]
                rfl
               refine pure_ (i := 18) (N := some 66) (v := undef) (a' := ?_) #[true, true, true, true, true, true, true, true, true, true, true, true, true, true, true, true, true, true, true, false] rfl rfl (any_of HT_.out (by kernel_rfl)) (fun _ _ _ h => h) (Or.inr ⟨by rfl, rfl⟩) ?_ ?_
               rotate_left
               ·
                simp only [Act.put, List.setIfInBounds_toArray, List.set_cons_zero, List.set_cons_succ, i64_w, i32_w]
                rfl
               refine pure_ (i := 19) (N := some 67) (v := ?_) (a' := ?_) #[true, true, true, true, true, true, true, true, true, true, true, true, true, true, true, true, true, true, true, true] rfl rfl (any_of HT_.out (by kernel_rfl)) (fun _ _ _ h => h) (Or.inl ⟨by rfl, ?_⟩) ?_ ?_
               rotate_left
               ·
                intro w'
                go_simp
                with_reducible rfl
               rotate_left
               ·
                simp only [Act.put, List.setIfInBounds_toArray, List.set_cons_zero, List.set_cons_succ, i64_w, i32_w]
                rfl
               refine done_ (done_of HT_.out (by kernel_rfl)) ?_
               try go_wp2
               go_ret2
               exact ⟨by first | rfl | (simp [errW_none, errW_some] <;> rfl) | (simp [*, errW_none, errW_some] <;> rfl), bl_ HB.out⟩
              ·
               rw [if_neg c45] at H
               have c45b0 : decide (x12_2 < 0) = false := decide_eq_false c45
               clear c45
               simp only [Option.some.injEq, Prod.mk.injEq] at H
               obtain ⟨rfl, rfl⟩ := H
               have hnb51 := NB165_166.out
               have hnc51 := NB166_165.out
               have hnb52 := NB165_167.out
               have hnc52 := NB167_165.out
               have hcz53_0 : wr.cell? ⟨gb165, 0, none⟩ = some (.int .i64 a0_0) := (blk_cell BK165.out 0).trans rfl
               have hcz53_1 : wr.cell? ⟨gb165, 1, none⟩ = some (.int .i64 a0_1) := (blk_cell BK165.out 1).trans rfl
               have hcz53_2 : wr.cell? ⟨gb165, 2, none⟩ = some (.int .i64 a0_2) := (blk_cell BK165.out 2).trans rfl
               have hfz53_0 := blk_frozen BK165.out 0
               have hfz53_1 := blk_frozen BK165.out 1
               have hfz53_2 := blk_frozen BK165.out 2
               try go_wp2_with (first | ((with_reducible refine gate_callee (f := 136) rfl ?_); refine goesL_ (some 47) rfl rfl Try.func136 (by kernel_rfl) rfl #[.int .i64 a0_2, .int .i64 x13_2] rfl (by (try simp only [List.map_toArray, List.map_cons, List.map_nil]); first | done | rfl | (simp only [List.length_drop, List.length_take]; rfl)) ?_; (with_reducible refine (swashplateref07_power.calls k2 a0_2 x13_2 t178 _ A41.out).mono ?_); rintro e w' ⟨rfl, ⟨nd, rfl⟩⟩; refine ⟨_, rfl, ?_⟩))
               (try (rw [drewN_self wr]; generalize hq_ : World.drewN wr _ = wr; have n0_ : Aside0 (Kd.R (Kd.int .i64) 3 wr w.heap.size (fun _ => True) v176 t175) := ⟨by rw [← hq_]; exact (by (with_reducible repeat (first | apply Kd.R_alloc | apply Kd.R_drewN | apply Kd.R_drew)); exact HO_11.out)⟩; have n1_ : Aside0 (wr.heap[gb165]? = some (.cells #[.int .i64 a0_0, .int .i64 a0_1, .int .i64 a0_2] 105 (0, 0))) := ⟨by rw [← hq_]; exact (bk_ BK165.out)⟩; have n2_ : Aside0 (wr.heap[gb166]? = some (.cells #[.int .i64 a1_0, .int .i64 a1_1] 28 (0, 0))) := ⟨by rw [← hq_]; exact (bk_ BK166.out)⟩; have n3_ : Aside0 (wr.heap[gb167]? = some (.cells #[.int .i64 a3_0, .int .i64 a3_1] 27 (0, 0))) := ⟨by rw [← hq_]; exact (bk_ BK167.out)⟩; have n4_ : Aside0 (Below w.heap.size w wr) := ⟨by rw [← hq_]; exact (bl_ HB.out)⟩; clear HO_11 BK165 BK166 BK167 HB hq_; have HO_11 := n0_; have BK165 := n1_; have BK166 := n2_; have BK167 := n3_; have HB := n4_; clear n0_ n1_ n2_ n3_ n4_))
               have n0_ := Aside0.mk (Kd.R_drew HO_11.out)
               have n1_ := Aside0.mk (blk_drew BK165.out)
               have n2_ := Aside0.mk (blk_drew BK166.out)
               have n3_ := Aside0.mk (blk_drew BK167.out)
               have n4_ := Aside0.mk (below_drew1 HB.out)
               clear HO_11 BK165 BK166 BK167 HB
               have HO_11 := n0_
               have BK165 := n1_
               have BK166 := n2_
               have BK167 := n3_
               have HB := n4_
               clear n0_ n1_ n2_ n3_ n4_
               obtain ⟨Ao55, co55, eo55⟩ := Kd.R_slice HO_11.out
               (first | subst eo55 | (injection eo55 with f1_ f2_ f3_; have f4_ := f1_.symm; have f5_ := f3_.symm; clear f1_ f2_ f3_; subst f4_; subst f5_))
               have p179 : 0 ≤ (x13_2 : Int) := of_decide_eq_true (by first | (with_reducible assumption) | assumption)
               have q179 : x13_2 < (t175.length : Int) := of_decide_eq_true (by first | (with_reducible assumption) | assumption)
               obtain ⟨ad179, e179, hx179_0⟩ := Kd.at_int (Kd.R_reads' HO_11.out).2.2 x13_2 p179 q179
               cases e179
               replace p179 := eq_true p179
               replace q179 := eq_true q179
               refine start_ (n := 20) (S := fun w' => w'.cell? ⟨gb167, 0, none⟩ = some (.int .i64 a3_0) ∧ w'.cell? ⟨gb167, 1, none⟩ = some (.int .i64 a3_1) ∧ w'.cell? (ad179.add (x13_2).toNat) = some (.int .i64 (rd t175 x13_2))) (ds := []) #[false, false, false, false, false, false, false, false, false, false, false, false, false, false, false, false, false, false, false, false] (by kernel_rfl) rfl rfl ⟨(blk_cell BK167.out 0).trans rfl, (blk_cell BK167.out 1).trans rfl, hx179_0⟩ (fun hHeld => ?_); refine with_tabW swashplateref07_Calm.tab14 swashplateref07_Calm.bits14 (fun HT_ HW_ => ?_)
               generalize wr.drew = w54 at HO_11 BK165 BK166 BK167 HB hx179_0 hHeld ⊢
               refine pure_ (i := 0) (N := some 48) (v := ?_) (a' := ?_) #[true, false, false, false, false, false, false, false, false, false, false, false, false, false, false, false, false, false, false, false] rfl rfl (any_of HT_.out (by kernel_rfl)) (fun _ _ _ h => h) (Or.inl ⟨by rfl, ?_⟩) ?_ ?_
               rotate_left
               ·
                intro w'
                go_simp
                with_reducible rfl
               rotate_left
               ·
                simp only [Act.put, List.setIfInBounds_toArray, List.set_cons_zero, List.set_cons_succ, i64_w, i32_w]
                rfl
               refine pure_ (i := 1) (N := some 49) (v := ?_) (a' := ?_) #[true, true, false, false, false, false, false, false, false, false, false, false, false, false, false, false, false, false, false, false] rfl rfl (any_of HT_.out (by kernel_rfl)) (fun _ _ _ h => h) (Or.inl ⟨by rfl, ?_⟩) ?_ ?_
               rotate_left
               ·
                intro w'
                go_simp
                with_reducible rfl
               rotate_left
               ·
                simp only [Act.put, List.setIfInBounds_toArray, List.set_cons_zero, List.set_cons_succ, i64_w, i32_w]
                rfl
               refine pure_ (i := 2) (N := some 50) (v := ?_) (a' := ?_) #[true, true, true, false, false, false, false, false, false, false, false, false, false, false, false, false, false, false, false, false] rfl rfl (any_of HT_.out (by kernel_rfl)) (fun _ _ _ h => h) (Or.inl ⟨by rfl, ?_⟩) ?_ ?_
               rotate_left
               ·
                intro w'
                go_simp
                with_reducible rfl
               rotate_left
               ·
                simp only [Act.put, List.setIfInBounds_toArray, List.set_cons_zero, List.set_cons_succ, i64_w, i32_w]
                rfl
               refine pure_ (i := 4) (N := some 52) (v := ?_) (a' := ?_) #[true, true, true, false, true, false, false, false, false, false, false, false, false, false, false, false, false, false, false, false] rfl rfl (any_of HT_.out (by kernel_rfl)) (fun _ _ _ h => h) (Or.inl ⟨by rfl, ?_⟩) ?_ ?_
               rotate_left
               ·
                intro w'
                go_simp
                with_reducible rfl
               rotate_left
               ·
                simp only [Act.put, List.setIfInBounds_toArray, List.set_cons_zero, List.set_cons_succ, i64_w, i32_w]
                rfl
               refine pure_ (i := 6) (N := some 54) (v := ?_) (a' := ?_) #[true, true, true, false, true, false, true, false, false, false, false, false, false, false, false, false, false, false, false, false] rfl rfl (any_of HT_.out (by kernel_rfl)) (fun _ _ _ h => h) (Or.inl ⟨by rfl, ?_⟩) ?_ ?_
               rotate_left
               ·
                intro w'
                go_simp
                with_reducible rfl
               rotate_left
               ·
                simp only [Act.put, List.setIfInBounds_toArray, List.set_cons_zero, List.set_cons_succ, i64_w, i32_w]
                rfl
               refine take_ (i := 3) (N := some 51) (v := ?_) (a' := ?_) #[true, true, true, true, true, false, true, false, false, false, false, false, false, false, false, false, false, false, false, false] rfl rfl (take_ofW HT_.out HW_.out (by kernel_rfl)) (fun _ _ _ h => h) (Or.inl ⟨by rfl, ?_⟩) hHeld ?_ ?_
               rotate_left
               ·
                rintro w' ⟨s0, s1, s2⟩
                go_simp
                with_reducible rfl
               rotate_left
               ·
                simp only [Act.put, List.setIfInBounds_toArray, List.set_cons_zero, List.set_cons_succ, i64_w, i32_w]
                rfl
               refine take_ (i := 5) (N := some 53) (v := ?_) (a' := ?_) #[true, true, true, true, true, true, true, false, false, false, false, false, false, false, false, false, false, false, false, false] rfl rfl (take_ofW HT_.out HW_.out (by kernel_rfl)) (fun _ _ _ h => h) (Or.inl ⟨by rfl, ?_⟩) hHeld ?_ ?_
               rotate_left
               ·
                rintro w' ⟨s0, s1, s2⟩
                go_simp
                with_reducible rfl
               rotate_left
               ·
                simp only [Act.put, List.setIfInBounds_toArray, List.set_cons_zero, List.set_cons_succ, i64_w, i32_w]
                rfl
               refine pure_ (i := 7) (N := some 55) (v := ?_) (a' := ?_) #[true, true, true, true, true, true, true, true, false, false, false, false, false, false, false, false, false, false, false, false] rfl rfl (any_of HT_.out (by kernel_rfl)) (fun _ _ _ h => h) (Or.inl ⟨by rfl, ?_⟩) ?_ ?_
               rotate_left
               ·
                intro w'
                go_simp
                with_reducible rfl
               rotate_left
               ·
                simp only [Act.put, List.setIfInBounds_toArray, List.set_cons_zero, List.set_cons_succ, i64_w, i32_w]
                rfl
               refine pure_ (i := 8) (N := some 56) (v := ?_) (a' := ?_) #[true, true, true, true, true, true, true, true, true, false, false, false, false, false, false, false, false, false, false, false] rfl rfl (any_of HT_.out (by kernel_rfl)) (fun _ _ _ h => h) (Or.inl ⟨by rfl, ?_⟩) ?_ ?_
               rotate_left
               ·
                intro w'
                go_simp
                with_reducible rfl
               rotate_left
               ·
                simp only [Act.put, List.setIfInBounds_toArray, List.set_cons_zero, List.set_cons_succ, i64_w, i32_w]
                rfl
               refine pure_ (i := 9) (N := some 57) (v := ?_) (a' := ?_) #[true, true, true, true, true, true, true, true, true, true, false, false, false, false, false, false, false, false, false, false] rfl rfl (any_of HT_.out (by kernel_rfl)) (fun _ _ _ h => h) (Or.inl ⟨by rfl, ?_⟩) ?_ ?_
               rotate_left
               ·
                intro w'
                go_simp
                with_reducible rfl
               rotate_left
               ·
                simp only [Act.put, List.setIfInBounds_toArray, List.set_cons_zero, List.set_cons_succ, i64_w, i32_w]
                rfl
               refine pure_ (i := 10) (N := some 58) (v := undef) (a' := ?_) #[true, true, true, true, true, true, true, true, true, true, true, false, false, false, false, false, false, false, false, false] rfl rfl (any_of HT_.out (by kernel_rfl)) (fun _ _ _ h => h) (Or.inr ⟨by rfl, rfl⟩) ?_ ?_
               rotate_left
               ·
                simp only [Act.put, List.setIfInBounds_toArray, List.set_cons_zero, List.set_cons_succ, i64_w, i32_w]
                rfl
               refine pure_ (i := 11) (N := some 59) (v := undef) (a' := ?_) #[true, true, true, true, true, true, true, true, true, true, true, true, false, false, false, false, false, false, false, false] rfl rfl (any_of HT_.out (by kernel_rfl)) (fun _ _ _ h => h) (Or.inr ⟨by rfl, rfl⟩) ?_ ?_
               rotate_left
               ·
                simp only [Act.put, List.setIfInBounds_toArray, List.set_cons_zero, List.set_cons_succ, i64_w, i32_w]
                rfl
               refine pure_ (i := 12) (N := some 60) (v := undef) (a' := ?_) #[true, true, true, true, true, true, true, true, true, true, true, true, true, false, false, false, false, false, false, false] rfl rfl (any_of HT_.out (by kernel_rfl)) (fun _ _ _ h => h) (Or.inr ⟨by rfl, rfl⟩) ?_ ?_
               rotate_left
               ·
                simp only [Act.put, List.setIfInBounds_toArray, List.set_cons_zero, List.set_cons_succ, i64_w, i32_w]
                rfl
               refine pure_ (i := 13) (N := some 61) (v := undef) (a' := ?_) #[true, true, true, true, true, true, true, true, true, true, true, true, true, true, false, false, false, false, false, false] rfl rfl (any_of HT_.out (by kernel_rfl)) (fun _ _ _ h => h) (Or.inr ⟨by rfl, rfl⟩) ?_ ?_
               rotate_left
               ·
                simp only [Act.put, List.setIfInBounds_toArray, List.set_cons_zero, List.set_cons_succ, i64_w, i32_w]
                rfl
               refine pure_ (i := 14) (N := some 62) (v := undef) (a' := ?_) #[true, true, true, true, true, true, true, true, true, true, true, true, true, true, true, false, false, false, false, false] rfl rfl (any_of HT_.out (by kernel_rfl)) (fun _ _ _ h => h) (Or.inr ⟨by rfl, rfl⟩) ?_ ?_
               rotate_left
               ·
                simp only [Act.put, List.setIfInBounds_toArray, List.set_cons_zero, List.set_cons_succ, i64_w, i32_w]
                rfl
               refine pure_ (i := 15) (N := some 63) (v := undef) (a' := ?_) #[true, true, true, true, true, true, true, true, true, true, true, true, true, true, true, true, false, false, false, false] rfl rfl (any_of HT_.out (by kernel_rfl)) (fun _ _ _ h => h) (Or.inr ⟨by rfl, rfl⟩) ?_ ?_
               rotate_left
               ·
                simp only [Act.put, List.setIfInBounds_toArray, List.set_cons_zero, List.set_cons_succ, i64_w, i32_w]
                rfl
               refine pure_ (i := 16) (N := some 64) (v := undef) (a' := ?_) #[true, true, true, true, true, true, true, true, true, true, true, true, true, true, true, true, true, false, false, false] rfl rfl (any_of HT_.out (by kernel_rfl)) (fun _ _ _ h => h) (Or.inr ⟨by rfl, rfl⟩) ?_ ?_
               rotate_left
               ·
                simp only [Act.put, List.setIfInBounds_toArray, List.set_cons_zero, List.set_cons_succ, i64_w, i32_w]
                rfl
               refine pure_ (i := 17) (N := some 65) (v := undef) (a' := ?_) #[true, true, true, true, true, true, true, true, true, true, true, true, true, true, true, true, true, true, false, false] rfl rfl (any_of HT_.out (by kernel_rfl)) (fun _ _ _ h => h) (Or.inr ⟨by rfl, rfl⟩) ?_ ?_
               rotate_left
               ·
                simp only [Act.put, List.setIfInBounds_toArray, List.set_cons_zero, List.set_cons_succ, i64_w, i32_w]
                rfl
               refine pure_ (i := 18) (N := some 66) (v := undef) (a' := ?_) #[true, true, true, true, true, true, true, true, true, true, true, true, true, true, true, true, true, true, true, false] rfl rfl (any_of HT_.out (by kernel_rfl)) (fun _ _ _ h => h) (Or.inr ⟨by rfl, rfl⟩) ?_ ?_
               rotate_left
               ·
                simp only [Act.put, List.setIfInBounds_toArray, List.set_cons_zero, List.set_cons_succ, i64_w, i32_w]
                rfl
               refine pure_ (i := 19) (N := some 67) (v := ?_) (a' := ?_) #[true, true, true, true, true, true, true, true, true, true, true, true, true, true, true, true, true, true, true, true] rfl rfl (any_of HT_.out (by kernel_rfl)) (fun _ _ _ h => h) (Or.inl ⟨by rfl, ?_⟩) ?_ ?_
               rotate_left
               ·
                intro w'
                go_simp
                with_reducible rfl
               rotate_left
               ·
                simp only [Act.put, List.setIfInBounds_toArray, List.set_cons_zero, List.set_cons_succ, i64_w, i32_w]
                rfl
               refine done_ (done_of HT_.out (by kernel_rfl)) ?_
               try go_wp2
               go_ret2
               exact ⟨by first | rfl | (simp [errW_none, errW_some] <;> rfl) | (simp [*, errW_none, errW_some] <;> rfl), bl_ HB.out⟩
             ·
              rw [if_neg c44] at H
              have c44b0 : decide ((rd t175 x13_2) < (wrap64 (a3_0 * t178))) = false := decide_eq_false c44
              clear c44
              by_cases c56 : (rd t175 x13_2) > (wrap64 (a3_1 * t178))
              ·
               rw [if_pos c56] at H
               have c56b0 : decide ((wrap64 (a3_1 * t178)) < (rd t175 x13_2)) = true := decide_eq_true c56
               clear c56
               by_cases c57 : x12_2 < 0
               ·
                rw [if_pos c57] at H
                have c57b0 : decide (x12_2 < 0) = true := decide_eq_true c57
                clear c57
                simp only [Option.some.injEq, Prod.mk.injEq] at H
                obtain ⟨rfl, rfl⟩ := H
                have hnb58 := NB165_166.out
                have hnc58 := NB166_165.out
                have hnb59 := NB165_167.out
                have hnc59 := NB167_165.out
                have hcz60_0 : wr.cell? ⟨gb165, 0, none⟩ = some (.int .i64 a0_0) := (blk_cell BK165.out 0).trans rfl
                have hcz60_1 : wr.cell? ⟨gb165, 1, none⟩ = some (.int .i64 a0_1) := (blk_cell BK165.out 1).trans rfl
                have hcz60_2 : wr.cell? ⟨gb165, 2, none⟩ = some (.int .i64 a0_2) := (blk_cell BK165.out 2).trans rfl
                have hfz60_0 := blk_frozen BK165.out 0
                have hfz60_1 := blk_frozen BK165.out 1
                have hfz60_2 := blk_frozen BK165.out 2
                try go_wp2_with (first | ((with_reducible refine gate_callee (f := 136) rfl ?_); refine goesL_ (some 47) rfl rfl Try.func136 (by kernel_rfl) rfl #[.int .i64 a0_2, .int .i64 x13_2] rfl (by (try simp only [List.map_toArray, List.map_cons, List.map_nil]); first | done | rfl | (simp only [List.length_drop, List.length_take]; rfl)) ?_; (with_reducible refine (swashplateref07_power.calls k2 a0_2 x13_2 t178 _ A41.out).mono ?_); rintro e w' ⟨rfl, ⟨nd, rfl⟩⟩; refine ⟨_, rfl, ?_⟩))
                (try (rw [drewN_self wr]; generalize hq_ : World.drewN wr _ = wr; have n0_ : Aside0 (Kd.R (Kd.int .i64) 3 wr w.heap.size (fun _ => True) v176 t175) := ⟨by rw [← hq_]; exact (by (with_reducible repeat (first | apply Kd.R_alloc | apply Kd.R_drewN | apply Kd.R_drew)); exact HO_11.out)⟩; have n1_ : Aside0 (wr.heap[gb165]? = some (.cells #[.int .i64 a0_0, .int .i64 a0_1, .int .i64 a0_2] 105 (0, 0))) := ⟨by rw [← hq_]; exact (bk_ BK165.out)⟩; have n2_ : Aside0 (wr.heap[gb166]? = some (.cells #[.int .i64 a1_0, .int .i64 a1_1] 28 (0, 0))) := ⟨by rw [← hq_]; exact (bk_ BK166.out)⟩; have n3_ : Aside0 (wr.heap[gb167]? = some (.cells #[.int .i64 a3_0, .int .i64 a3_1] 27 (0, 0))) := ⟨by rw [← hq_]; exact (bk_ BK167.out)⟩; have n4_ : Aside0 (Below w.heap.size w wr) := ⟨by rw [← hq_]; exact (bl_ HB.out)⟩; clear HO_11 BK165 BK166 BK167 HB hq_; have HO_11 := n0_; have BK165 := n1_; have BK166 := n2_; have BK167 := n3_; have HB := n4_; clear n0_ n1_ n2_ n3_ n4_))
                have n0_ := Aside0.mk (Kd.R_drew HO_11.out)
                have n1_ := Aside0.mk (blk_drew BK165.out)
                have n2_ := Aside0.mk (blk_drew BK166.out)
                have n3_ := Aside0.mk (blk_drew BK167.out)
                have n4_ := Aside0.mk (below_drew1 HB.out)
                clear HO_11 BK165 BK166 BK167 HB
                have HO_11 := n0_
                have BK165 := n1_
                have BK166 := n2_
                have BK167 := n3_
                have HB := n4_
                clear n0_ n1_ n2_ n3_ n4_
                obtain ⟨Ao62, co62, eo62⟩ := Kd.R_slice HO_11.out
                (first | subst eo62 | (injection eo62 with f1_ f2_ f3_; have f4_ := f1_.symm; have f5_ := f3_.symm; clear f1_ f2_ f3_; subst f4_; subst f5_))
                have p179 : 0 ≤ (x13_2 : Int) := of_decide_eq_true (by first | (with_reducible assumption) | assumption)
                have q179 : x13_2 < (t175.length : Int) := of_decide_eq_true (by first | (with_reducible assumption) | assumption)
                obtain ⟨ad179, e179, hx179_0⟩ := Kd.at_int (Kd.R_reads' HO_11.out).2.2 x13_2 p179 q179
                cases e179
                replace p179 := eq_true p179
                replace q179 := eq_true q179
                have p180 : 0 ≤ (x13_2 : Int) := of_decide_eq_true (by first | (with_reducible assumption) | assumption)
                have q180 : x13_2 < (t175.length : Int) := of_decide_eq_true (by first | (with_reducible assumption) | assumption)
                obtain ⟨ad180, e180, hx180_0⟩ := Kd.at_int (Kd.R_reads' HO_11.out).2.2 x13_2 p180 q180
                obtain rfl : ad179 = ad180 := (by injection e180)
                replace p180 := eq_true p180
                replace q180 := eq_true q180
                refine start_ (n := 20) (S := fun w' => w'.cell? ⟨gb167, 0, none⟩ = some (.int .i64 a3_0) ∧ w'.cell? ⟨gb167, 1, none⟩ = some (.int .i64 a3_1) ∧ w'.cell? (ad179.add (x13_2).toNat) = some (.int .i64 (rd t175 x13_2)) ∧ w'.cell? (ad179.add (x13_2).toNat) = some (.int .i64 (rd t175 x13_2))) (ds := []) #[false, false, false, false, false, false, false, false, false, false, false, false, false, false, false, false, false, false, false, false] (by kernel_rfl) rfl rfl ⟨(blk_cell BK167.out 0).trans rfl, (blk_cell BK167.out 1).trans rfl, hx179_0, hx180_0⟩ (fun hHeld => ?_); refine with_tabW swashplateref07_Calm.tab14 swashplateref07_Calm.bits14 (fun HT_ HW_ => ?_)
                generalize wr.drew = w61 at HO_11 BK165 BK166 BK167 HB hx179_0 hx180_0 hHeld ⊢
                refine pure_ (i := 0) (N := some 48) (v := ?_) (a' := ?_) #[true, false, false, false, false, false, false, false, false, false, false, false, false, false, false, false, false, false, false, false] rfl rfl (any_of HT_.out (by kernel_rfl)) (fun _ _ _ h => h) (Or.inl ⟨by rfl, ?_⟩) ?_ ?_
                rotate_left
                ·
                 intro w'
                 go_simp
                 with_reducible rfl
                rotate_left
                ·
                 simp only [Act.put, List.setIfInBounds_toArray, List.set_cons_zero, List.set_cons_succ, i64_w, i32_w]
                 rfl
                refine pure_ (i := 1) (N := some 49) (v := ?_) (a' := ?_) #[true, true, false, false, false, false, false, false, false, false, false, false, false, false, false, false, false, false, false, false] rfl rfl (any_of HT_.out (by kernel_rfl)) (fun _ _ _ h => h) (Or.inl ⟨by rfl, ?_⟩) ?_ ?_
                rotate_left
                ·
                 intro w'
                 go_simp
                 with_reducible rfl
                rotate_left
                ·
                 simp only [Act.put, List.setIfInBounds_toArray, List.set_cons_zero, List.set_cons_succ, i64_w, i32_w]
                 rfl
                refine pure_ (i := 2) (N := some 50) (v := ?_) (a' := ?_) #[true, true, true, false, false, false, false, false, false, false, false, false, false, false, false, false, false, false, false, false] rfl rfl (any_of HT_.out (by kernel_rfl)) (fun _ _ _ h => h) (Or.inl ⟨by rfl, ?_⟩) ?_ ?_
                rotate_left
                ·
                 intro w'
                 go_simp
                 with_reducible rfl
                rotate_left
                ·
                 simp only [Act.put, List.setIfInBounds_toArray, List.set_cons_zero, List.set_cons_succ, i64_w, i32_w]
                 rfl
                refine pure_ (i := 4) (N := some 52) (v := ?_) (a' := ?_) #[true, true, true, false, true, false, false, false, false, false, false, false, false, false, false, false, false, false, false, false] rfl rfl (any_of HT_.out (by kernel_rfl)) (fun _ _ _ h => h) (Or.inl ⟨by rfl, ?_⟩) ?_ ?_
                rotate_left
                ·
                 intro w'
                 go_simp
                 with_reducible rfl
                rotate_left
                ·
                 simp only [Act.put, List.setIfInBounds_toArray, List.set_cons_zero, List.set_cons_succ, i64_w, i32_w]
                 rfl
                refine pure_ (i := 6) (N := some 54) (v := ?_) (a' := ?_) #[true, true, true, false, true, false, true, false, false, false, false, false, false, false, false, false, false, false, false, false] rfl rfl (any_of HT_.out (by kernel_rfl)) (fun _ _ _ h => h) (Or.inl ⟨by rfl, ?_⟩) ?_ ?_
                rotate_left
                ·
                 intro w'
                 go_simp
                 with_reducible rfl
                rotate_left
                ·
                 simp only [Act.put, List.setIfInBounds_toArray, List.set_cons_zero, List.set_cons_succ, i64_w, i32_w]
                 rfl
                refine take_ (i := 3) (N := some 51) (v := ?_) (a' := ?_) #[true, true, true, true, true, false, true, false, false, false, false, false, false, false, false, false, false, false, false, false] rfl rfl (take_ofW HT_.out HW_.out (by kernel_rfl)) (fun _ _ _ h => h) (Or.inl ⟨by rfl, ?_⟩) hHeld ?_ ?_
                rotate_left
                ·
                 rintro w' ⟨s0, s1, s2, s3⟩
                 go_simp
                 with_reducible rfl
                rotate_left
                ·
                 simp only [Act.put, List.setIfInBounds_toArray, List.set_cons_zero, List.set_cons_succ, i64_w, i32_w]
                 rfl
                refine take_ (i := 5) (N := some 53) (v := ?_) (a' := ?_) #[true, true, true, true, true, true, true, false, false, false, false, false, false, false, false, false, false, false, false, false] rfl rfl (take_ofW HT_.out HW_.out (by kernel_rfl)) (fun _ _ _ h => h) (Or.inl ⟨by rfl, ?_⟩) hHeld ?_ ?_
                rotate_left
                ·
                 rintro w' ⟨s0, s1, s2, s3⟩
                 go_simp
                 with_reducible rfl
                rotate_left
                ·
                 simp only [Act.put, List.setIfInBounds_toArray, List.set_cons_zero, List.set_cons_succ, i64_w, i32_w]
                 rfl
                refine pure_ (i := 7) (N := some 55) (v := ?_) (a' := ?_) #[true, true, true, true, true, true, true, true, false, false, false, false, false, false, false, false, false, false, false, false] rfl rfl (any_of HT_.out (by kernel_rfl)) (fun _ _ _ h => h) (Or.inl ⟨by rfl, ?_⟩) ?_ ?_
                rotate_left
                ·
                 intro w'
                 go_simp
                 with_reducible rfl
                rotate_left
                ·
                 simp only [Act.put, List.setIfInBounds_toArray, List.set_cons_zero, List.set_cons_succ, i64_w, i32_w]
                 rfl
                refine pure_ (i := 8) (N := some 56) (v := ?_) (a' := ?_) #[true, true, true, true, true, true, true, true, true, false, false, false, false, false, false, false, false, false, false, false] rfl rfl (any_of HT_.out (by kernel_rfl)) (fun _ _ _ h => h) (Or.inl ⟨by rfl, ?_⟩) ?_ ?_
                rotate_left
                ·
                 intro w'
                 go_simp
                 with_reducible rfl
                rotate_left
                ·
                 simp only [Act.put, List.setIfInBounds_toArray, List.set_cons_zero, List.set_cons_succ, i64_w, i32_w]
                 rfl
                refine pure_ (i := 9) (N := some 57) (v := ?_) (a' := ?_) #[true, true, true, true, true, true, true, true, true, true, false, false, false, false, false, false, false, false, false, false] rfl rfl (any_of HT_.out (by kernel_rfl)) (fun _ _ _ h => h) (Or.inl ⟨by rfl, ?_⟩) ?_ ?_
                rotate_left
                ·
                 intro w'
                 go_simp
                 with_reducible rfl
                rotate_left
                ·
                 simp only [Act.put, List.setIfInBounds_toArray, List.set_cons_zero, List.set_cons_succ, i64_w, i32_w]
                 rfl
                refine pure_ (i := 10) (N := some 58) (v := ?_) (a' := ?_) #[true, true, true, true, true, true, true, true, true, true, true, false, false, false, false, false, false, false, false, false] rfl rfl (any_of HT_.out (by kernel_rfl)) (fun _ _ _ h => h) (Or.inl ⟨by rfl, ?_⟩) ?_ ?_
                rotate_left
                ·
                 intro w'
                 go_simp
                 with_reducible rfl
                rotate_left
                ·
                 simp only [Act.put, List.setIfInBounds_toArray, List.set_cons_zero, List.set_cons_succ, i64_w, i32_w]
                 rfl
                refine pure_ (i := 11) (N := some 59) (v := ?_) (a' := ?_) #[true, true, true, true, true, true, true, true, true, true, true, true, false, false, false, false, false, false, false, false] rfl rfl (any_of HT_.out (by kernel_rfl)) (fun _ _ _ h => h) (Or.inl ⟨by rfl, ?_⟩) ?_ ?_
                rotate_left
                ·
                 intro w'
                 go_simp
                 with_reducible rfl
                rotate_left
                ·
                 simp only [Act.put, List.setIfInBounds_toArray, List.set_cons_zero, List.set_cons_succ, i64_w, i32_w]
                 rfl
                refine pure_ (i := 12) (N := some 60) (v := ?_) (a' := ?_) #[true, true, true, true, true, true, true, true, true, true, true, true, true, false, false, false, false, false, false, false] rfl rfl (any_of HT_.out (by kernel_rfl)) (fun _ _ _ h => h) (Or.inl ⟨by rfl, ?_⟩) ?_ ?_
                rotate_left
                ·
                 intro w'
                 go_simp
                 with_reducible rfl
                rotate_left
                ·
                 simp only [Act.put, List.setIfInBounds_toArray, List.set_cons_zero, List.set_cons_succ, i64_w, i32_w]
                 rfl
                refine pure_ (i := 14) (N := some 62) (v := ?_) (a' := ?_) #[true, true, true, true, true, true, true, true, true, true, true, true, true, false, true, false, false, false, false, false] rfl rfl (any_of HT_.out (by kernel_rfl)) (fun _ _ _ h => h) (Or.inl ⟨by rfl, ?_⟩) ?_ ?_
                rotate_left
                ·
                 intro w'
                 go_simp
                 with_reducible rfl
                rotate_left
                ·
                 simp only [Act.put, List.setIfInBounds_toArray, List.set_cons_zero, List.set_cons_succ, i64_w, i32_w]
                 rfl
                refine pure_ (i := 16) (N := some 64) (v := ?_) (a' := ?_) #[true, true, true, true, true, true, true, true, true, true, true, true, true, false, true, false, true, false, false, false] rfl rfl (any_of HT_.out (by kernel_rfl)) (fun _ _ _ h => h) (Or.inl ⟨by rfl, ?_⟩) ?_ ?_
                rotate_left
                ·
                 intro w'
                 go_simp
                 with_reducible rfl
                rotate_left
                ·
                 simp only [Act.put, List.setIfInBounds_toArray, List.set_cons_zero, List.set_cons_succ, i64_w, i32_w]
                 rfl
                refine take_ (i := 13) (N := some 61) (v := ?_) (a' := ?_) #[true, true, true, true, true, true, true, true, true, true, true, true, true, true, true, false, true, false, false, false] rfl rfl (take_ofW HT_.out HW_.out (by kernel_rfl)) (fun _ _ _ h => h) (Or.inl ⟨by rfl, ?_⟩) hHeld ?_ ?_
                rotate_left
                ·
                 rintro w' ⟨s0, s1, s2, s3⟩
                 go_simp
                 with_reducible rfl
                rotate_left
                ·
                 simp only [Act.put, List.setIfInBounds_toArray, List.set_cons_zero, List.set_cons_succ, i64_w, i32_w]
                 rfl
                refine take_ (i := 15) (N := some 63) (v := ?_) (a' := ?_) #[true, true, true, true, true, true, true, true, true, true, true, true, true, true, true, true, true, false, false, false] rfl rfl (take_ofW HT_.out HW_.out (by kernel_rfl)) (fun _ _ _ h => h) (Or.inl ⟨by rfl, ?_⟩) hHeld ?_ ?_
                rotate_left
                ·
                 rintro w' ⟨s0, s1, s2, s3⟩
                 go_simp
                 with_reducible rfl
                rotate_left
                ·
                 simp only [Act.put, List.setIfInBounds_toArray, List.set_cons_zero, List.set_cons_succ, i64_w, i32_w]
                 rfl
                refine pure_ (i := 17) (N := some 65) (v := ?_) (a' := ?_) #[true, true, true, true, true, true, true, true, true, true, true, true, true, true, true, true, true, true, false, false] rfl rfl (any_of HT_.out (by kernel_rfl)) (fun _ _ _ h => h) (Or.inl ⟨by rfl, ?_⟩) ?_ ?_
                rotate_left
                ·
                 intro w'
                 go_simp
                 with_reducible rfl
                rotate_left
                ·
                 simp only [Act.put, List.setIfInBounds_toArray, List.set_cons_zero, List.set_cons_succ, i64_w, i32_w]
                 rfl
                refine pure_ (i := 18) (N := some 66) (v := ?_) (a' := ?_) #[true, true, true, true, true, true, true, true, true, true, true, true, true, true, true, true, true, true, true, false] rfl rfl (any_of HT_.out (by kernel_rfl)) (fun _ _ _ h => h) (Or.inl ⟨by rfl, ?_⟩) ?_ ?_
                rotate_left
                ·
                 intro w'
                 go_simp
                 with_reducible rfl
                rotate_left
                ·
                 simp only [Act.put, List.setIfInBounds_toArray, List.set_cons_zero, List.set_cons_succ, i64_w, i32_w]
                 rfl
                refine pure_ (i := 19) (N := some 67) (v := ?_) (a' := ?_) #[true, true, true, true, true, true, true, true, true, true, true, true, true, true, true, true, true, true, true, true] rfl rfl (any_of HT_.out (by kernel_rfl)) (fun _ _ _ h => h) (Or.inl ⟨by rfl, ?_⟩) ?_ ?_
                rotate_left
                ·
                 intro w'
                 go_simp
                 with_reducible rfl
                rotate_left
                ·
                 simp only [Act.put, List.setIfInBounds_toArray, List.set_cons_zero, List.set_cons_succ, i64_w, i32_w]
                 rfl
                refine done_ (done_of HT_.out (by kernel_rfl)) ?_
                try go_wp2
                go_ret2
                exact ⟨by first | rfl | (simp [errW_none, errW_some] <;> rfl) | (simp [*, errW_none, errW_some] <;> rfl), bl_ HB.out⟩
               ·
                rw [if_neg c57] at H
                have c57b0 : decide (x12_2 < 0) = false := decide_eq_false c57
                clear c57
                simp only [Option.some.injEq, Prod.mk.injEq] at H
                obtain ⟨rfl, rfl⟩ := H
                have hnb63 := NB165_166.out
                have hnc63 := NB166_165.out
                have hnb64 := NB165_167.out
                have hnc64 := NB167_165.out
                have hcz65_0 : wr.cell? ⟨gb165, 0, none⟩ = some (.int .i64 a0_0) := (blk_cell BK165.out 0).trans rfl
                have hcz65_1 : wr.cell? ⟨gb165, 1, none⟩ = some (.int .i64 a0_1) := (blk_cell BK165.out 1).trans rfl
                have hcz65_2 : wr.cell? ⟨gb165, 2, none⟩ = some (.int .i64 a0_2) := (blk_cell BK165.out 2).trans rfl
                have hfz65_0 := blk_frozen BK165.out 0
                have hfz65_1 := blk_frozen BK165.out 1
                have hfz65_2 := blk_frozen BK165.out 2
                try go_wp2_with (first | ((with_reducible refine gate_callee (f := 136) rfl ?_); refine goesL_ (some 47) rfl rfl Try.func136 (by kernel_rfl) rfl #[.int .i64 a0_2, .int .i64 x13_2] rfl (by (try simp only [List.map_toArray, List.map_cons, List.map_nil]); first | done | rfl | (simp only [List.length_drop, List.length_take]; rfl)) ?_; (with_reducible refine (swashplateref07_power.calls k2 a0_2 x13_2 t178 _ A41.out).mono ?_); rintro e w' ⟨rfl, ⟨nd, rfl⟩⟩; refine ⟨_, rfl, ?_⟩))
                (try (rw [drewN_self wr]; generalize hq_ : World.drewN wr _ = wr; have n0_ : Aside0 (Kd.R (Kd.int .i64) 3 wr w.heap.size (fun _ => True) v176 t175) := ⟨by rw [← hq_]; exact (by (with_reducible repeat (first | apply Kd.R_alloc | apply Kd.R_drewN | apply Kd.R_drew)); exact HO_11.out)⟩; have n1_ : Aside0 (wr.heap[gb165]? = some (.cells #[.int .i64 a0_0, .int .i64 a0_1, .int .i64 a0_2] 105 (0, 0))) := ⟨by rw [← hq_]; exact (bk_ BK165.out)⟩; have n2_ : Aside0 (wr.heap[gb166]? = some (.cells #[.int .i64 a1_0, .int .i64 a1_1] 28 (0, 0))) := ⟨by rw [← hq_]; exact (bk_ BK166.out)⟩; have n3_ : Aside0 (wr.heap[gb167]? = some (.cells #[.int .i64 a3_0, .int .i64 a3_1] 27 (0, 0))) := ⟨by rw [← hq_]; exact (bk_ BK167.out)⟩; have n4_ : Aside0 (Below w.heap.size w wr) := ⟨by rw [← hq_]; exact (bl_ HB.out)⟩; clear HO_11 BK165 BK166 BK167 HB hq_; have HO_11 := n0_; have BK165 := n1_; have BK166 := n2_; have BK167 := n3_; have HB := n4_; clear n0_ n1_ n2_ n3_ n4_))
                have n0_ := Aside0.mk (Kd.R_drew HO_11.out)
                have n1_ := Aside0.mk (blk_drew BK165.out)
                have n2_ := Aside0.mk (blk_drew BK166.out)
                have n3_ := Aside0.mk (blk_drew BK167.out)
                have n4_ := Aside0.mk (below_drew1 HB.out)
                clear HO_11 BK165 BK166 BK167 HB
                have HO_11 := n0_
                have BK165 := n1_
                have BK166 := n2_
                have BK167 := n3_
                have HB := n4_
                clear n0_ n1_ n2_ n3_ n4_
                obtain ⟨Ao67, co67, eo67⟩ := Kd.R_slice HO_11.out
                (first | subst eo67 | (injection eo67 with f1_ f2_ f3_; have f4_ := f1_.symm; have f5_ := f3_.symm; clear f1_ f2_ f3_; subst f4_; subst f5_))
                have p179 : 0 ≤ (x13_2 : Int) := of_decide_eq_true (by first | (with_reducible assumption) | assumption)
                have q179 : x13_2 < (t175.length : Int) := of_decide_eq_true (by first | (with_reducible assumption) | assumption)
                obtain ⟨ad179, e179, hx179_0⟩ := Kd.at_int (Kd.R_reads' HO_11.out).2.2 x13_2 p179 q179
                cases e179
                replace p179 := eq_true p179
                replace q179 := eq_true q179
                have p180 : 0 ≤ (x13_2 : Int) := of_decide_eq_true (by first | (with_reducible assumption) | assumption)
                have q180 : x13_2 < (t175.length : Int) := of_decide_eq_true (by first | (with_reducible assumption) | assumption)
                obtain ⟨ad180, e180, hx180_0⟩ := Kd.at_int (Kd.R_reads' HO_11.out).2.2 x13_2 p180 q180
                obtain rfl : ad179 = ad180 := (by injection e180)
                replace p180 := eq_true p180
                replace q180 := eq_true q180
                refine start_ (n := 20) (S := fun w' => w'.cell? ⟨gb167, 0, none⟩ = some (.int .i64 a3_0) ∧ w'.cell? ⟨gb167, 1, none⟩ = some (.int .i64 a3_1) ∧ w'.cell? (ad179.add (x13_2).toNat) = some (.int .i64 (rd t175 x13_2)) ∧ w'.cell? (ad179.add (x13_2).toNat) = some (.int .i64 (rd t175 x13_2))) (ds := []) #[false, false, false, false, false, false, false, false, false, false, false, false, false, false, false, false, false, false, false, false] (by kernel_rfl) rfl rfl ⟨(blk_cell BK167.out 0).trans rfl, (blk_cell BK167.out 1).trans rfl, hx179_0, hx180_0⟩ (fun hHeld => ?_); refine with_tabW swashplateref07_Calm.tab14 swashplateref07_Calm.bits14 (fun HT_ HW_ => ?_)
                generalize wr.drew = w66 at HO_11 BK165 BK166 BK167 HB hx179_0 hx180_0 hHeld ⊢
                refine pure_ (i := 0) (N := some 48) (v := ?_) (a' := ?_) #[true, false, false, false, false, false, false, false, false, false, false, false, false, false, false, false, false, false, false, false] rfl rfl (any_of HT_.out (by kernel_rfl)) (fun _ _ _ h => h) (Or.inl ⟨by rfl, ?_⟩) ?_ ?_
                rotate_left
                ·
                 intro w'
                 go_simp
                 with_reducible rfl
                rotate_left
                ·
                 simp only [Act.put, List.setIfInBounds_toArray, List.set_cons_zero, List.set_cons_succ, i64_w, i32_w]
                 rfl
                refine pure_ (i := 1) (N := some 49) (v := ?_) (a' := ?_) #[true, true, false, false, false, false, false, false, false, false, false, false, false, false, false, false, false, false, false, false] rfl rfl (any_of HT_.out (by kernel_rfl)) (fun _ _ _ h => h) (Or.inl ⟨by rfl, ?_⟩) ?_ ?_
                rotate_left
                ·
                 intro w'
                 go_simp
                 with_reducible rfl
                rotate_left
                ·
                 simp only [Act.put, List.setIfInBounds_toArray, List.set_cons_zero, List.set_cons_succ, i64_w, i32_w]
                 rfl
                refine pure_ (i := 2) (N := some 50) (v := ?_) (a' := ?_) #[true, true, true, false, false, false, false, false, false, false, false, false, false, false, false, false, false, false, false, false] rfl rfl (any_of HT_.out (by kernel_rfl)) (fun _ _ _ h => h) (Or.inl ⟨by rfl, ?_⟩) ?_ ?_
                rotate_left
                ·
                 intro w'
                 go_simp
                 with_reducible rfl
                rotate_left
                ·
                 simp only [Act.put, List.setIfInBounds_toArray, List.set_cons_zero, List.set_cons_succ, i64_w, i32_w]
                 rfl
                refine pure_ (i := 4) (N := some 52) (v := ?_) (a' := ?_) #[true, true, true, false, true, false, false, false, false, false, false, false, false, false, false, false, false, false, false, false] rfl rfl (any_of HT_.out (by kernel_rfl)) (fun _ _ _ h => h) (Or.inl ⟨by rfl, ?_⟩) ?_ ?_
                rotate_left
                ·
                 intro w'
                 go_simp
                 with_reducible rfl
                rotate_left
                ·
                 simp only [Act.put, List.setIfInBounds_toArray, List.set_cons_zero, List.set_cons_succ, i64_w, i32_w]
                 rfl
                refine pure_ (i := 6) (N := some 54) (v := ?_) (a' := ?_) #[true, true, true, false, true, false, true, false, false, false, false, false, false, false, false, false, false, false, false, false] rfl rfl (any_of HT_.out (by kernel_rfl)) (fun _ _ _ h => h) (Or.inl ⟨by rfl, ?_⟩) ?_ ?_
                rotate_left
                ·
                 intro w'
                 go_simp
                 with_reducible rfl
                rotate_left
                ·
                 simp only [Act.put, List.setIfInBounds_toArray, List.set_cons_zero, List.set_cons_succ, i64_w, i32_w]
                 rfl
                refine take_ (i := 3) (N := some 51) (v := ?_) (a' := ?_) #[true, true, true, true, true, false, true, false, false, false, false, false, false, false, false, false, false, false, false, false] rfl rfl (take_ofW HT_.out HW_.out (by kernel_rfl)) (fun _ _ _ h => h) (Or.inl ⟨by rfl, ?_⟩) hHeld ?_ ?_
                rotate_left
                ·
                 rintro w' ⟨s0, s1, s2, s3⟩
                 go_simp
                 with_reducible rfl
                rotate_left
                ·
                 simp only [Act.put, List.setIfInBounds_toArray, List.set_cons_zero, List.set_cons_succ, i64_w, i32_w]
                 rfl
                refine take_ (i := 5) (N := some 53) (v := ?_) (a' := ?_) #[true, true, true, true, true, true, true, false, false, false, false, false, false, false, false, false, false, false, false, false] rfl rfl (take_ofW HT_.out HW_.out (by kernel_rfl)) (fun _ _ _ h => h) (Or.inl ⟨by rfl, ?_⟩) hHeld ?_ ?_
                rotate_left
                ·
                 rintro w' ⟨s0, s1, s2, s3⟩
                 go_simp
                 with_reducible rfl
                rotate_left
                ·
                 simp only [Act.put, List.setIfInBounds_toArray, List.set_cons_zero, List.set_cons_succ, i64_w, i32_w]
                 rfl
                refine pure_ (i := 7) (N := some 55) (v := ?_) (a' := ?_) #[true, true, true, true, true, true, true, true, false, false, false, false, false, false, false, false, false, false, false, false] rfl rfl (any_of HT_.out (by kernel_rfl)) (fun _ _ _ h => h) (Or.inl ⟨by rfl, ?_⟩) ?_ ?_
                rotate_left
                ·
                 intro w'
                 go_simp
                 with_reducible rfl
                rotate_left
                ·
                 simp only [Act.put, List.setIfInBounds_toArray, List.set_cons_zero, List.set_cons_succ, i64_w, i32_w]
                 rfl
                refine pure_ (i := 8) (N := some 56) (v := ?_) (a' := ?_) #[true, true, true, true, true, true, true, true, true, false, false, false, false, false, false, false, false, false, false, false] rfl rfl (any_of HT_.out (by kernel_rfl)) (fun _ _ _ h => h) (Or.inl ⟨by rfl, ?_⟩) ?_ ?_
                rotate_left
                ·
                 intro w'
                 go_simp
                 with_reducible rfl
                rotate_left
                ·
                 simp only [Act.put, List.setIfInBounds_toArray, List.set_cons_zero, List.set_cons_succ, i64_w, i32_w]
                 rfl
                refine pure_ (i := 9) (N := some 57) (v := ?_) (a' := ?_) #[true, true, true, true, true, true, true, true, true, true, false, false, false, false, false, false, false, false, false, false] rfl rfl (any_of HT_.out (by kernel_rfl)) (fun _ _ _ h => h) (Or.inl ⟨by rfl, ?_⟩) ?_ ?_
                rotate_left
                ·
                 intro w'
                 go_simp
                 with_reducible rfl
                rotate_left
                ·
                 simp only [Act.put, List.setIfInBounds_toArray, List.set_cons_zero, List.set_cons_succ, i64_w, i32_w]
                 rfl
                refine pure_ (i := 10) (N := some 58) (v := ?_) (a' := ?_) #[true, true, true, true, true, true, true, true, true, true, true, false, false, false, false, false, false, false, false, false] rfl rfl (any_of HT_.out (by kernel_rfl)) (fun _ _ _ h => h) (Or.inl ⟨by rfl, ?_⟩) ?_ ?_
                rotate_left
                ·
                 intro w'
                 go_simp
                 with_reducible rfl
                rotate_left
                ·
                 simp only [Act.put, List.setIfInBounds_toArray, List.set_cons_zero, List.set_cons_succ, i64_w, i32_w]
                 rfl
                refine pure_ (i := 11) (N := some 59) (v := ?_) (a' := ?_) #[true, true, true, true, true, true, true, true, true, true, true, true, false, false, false, false, false, false, false, false] rfl rfl (any_of HT_.out (by kernel_rfl)) (fun _ _ _ h => h) (Or.inl ⟨by rfl, ?_⟩) ?_ ?_
                rotate_left
                ·
                 intro w'
                 go_simp
                 with_reducible rfl
                rotate_left
                ·
                 simp only [Act.put, List.setIfInBounds_toArray, List.set_cons_zero, List.set_cons_succ, i64_w, i32_w]
                 rfl
                refine pure_ (i := 12) (N := some 60) (v := ?_) (a' := ?_) #[true, true, true, true, true, true, true, true, true, true, true, true, true, false, false, false, false, false, false, false] rfl rfl (any_of HT_.out (by kernel_rfl)) (fun _ _ _ h => h) (Or.inl ⟨by rfl, ?_⟩) ?_ ?_
                rotate_left
                ·
                 intro w'
                 go_simp
                 with_reducible rfl
                rotate_left
                ·
                 simp only [Act.put, List.setIfInBounds_toArray, List.set_cons_zero, List.set_cons_succ, i64_w, i32_w]
                 rfl
                refine pure_ (i := 14) (N := some 62) (v := ?_) (a' := ?_) #[true, true, true, true, true, true, true, true, true, true, true, true, true, false, true, false, false, false, false, false] rfl rfl (any_of HT_.out (by kernel_rfl)) (fun _ _ _ h => h) (Or.inl ⟨by rfl, ?_⟩) ?_ ?_
                rotate_left
                ·
                 intro w'
                 go_simp
                 with_reducible rfl
                rotate_left
                ·
                 simp only [Act.put, List.setIfInBounds_toArray, List.set_cons_zero, List.set_cons_succ, i64_w, i32_w]
                 rfl
                refine pure_ (i := 16) (N := some 64) (v := ?_) (a' := ?_) #[true, true, true, true, true, true, true, true, true, true, true, true, true, false, true, false, true, false, false, false] rfl rfl (any_of HT_.out (by kernel_rfl)) (fun _ _ _ h => h) (Or.inl ⟨by rfl, ?_⟩) ?_ ?_
                rotate_left
                ·
                 intro w'
                 go_simp
                 with_reducible rfl
                rotate_left
                ·
                 simp only [Act.put, List.setIfInBounds_toArray, List.set_cons_zero, List.set_cons_succ, i64_w, i32_w]
                 rfl
                refine take_ (i := 13) (N := some 61) (v := ?_) (a' := ?_) #[true, true, true, true, true, true, true, true, true, true, true, true, true, true, true, false, true, false, false, false] rfl rfl (take_ofW HT_.out HW_.out (by kernel_rfl)) (fun _ _ _ h => h) (Or.inl ⟨by rfl, ?_⟩) hHeld ?_ ?_
                rotate_left
                ·
                 rintro w' ⟨s0, s1, s2, s3⟩
                 go_simp
                 with_reducible rfl
                rotate_left
                ·
                 simp only [Act.put, List.setIfInBounds_toArray, List.set_cons_zero, List.set_cons_succ, i64_w, i32_w]
                 rfl
                refine take_ (i := 15) (N := some 63) (v := ?_) (a' := ?_) #[true, true, true, true, true, true, true, true, true, true, true, true, true, true, true, true, true, false, false, false] rfl rfl (take_ofW HT_.out HW_.out (by kernel_rfl)) (fun _ _ _ h => h) (Or.inl ⟨by rfl, ?_⟩) hHeld ?_ ?_
                rotate_left
                ·
                 rintro w' ⟨s0, s1, s2, s3⟩
                 go_simp
                 with_reducible rfl
                rotate_left
                ·
                 simp only [Act.put, List.setIfInBounds_toArray, List.set_cons_zero, List.set_cons_succ, i64_w, i32_w]
                 rfl
                refine pure_ (i := 17) (N := some 65) (v := ?_) (a' := ?_) #[true, true, true, true, true, true, true, true, true, true, true, true, true, true, true, true, true, true, false, false] rfl rfl (any_of HT_.out (by kernel_rfl)) (fun _ _ _ h => h) (Or.inl ⟨by rfl, ?_⟩) ?_ ?_
                rotate_left
                ·
                 intro w'
                 go_simp
                 with_reducible rfl
                rotate_left
                ·
                 simp only [Act.put, List.setIfInBounds_toArray, List.set_cons_zero, List.set_cons_succ, i64_w, i32_w]
                 rfl
                refine pure_ (i := 18) (N := some 66) (v := ?_) (a' := ?_) #[true, true, true, true, true, true, true, true, true, true, true, true, true, true, true, true, true, true, true, false] rfl rfl (any_of HT_.out (by kernel_rfl)) (fun _ _ _ h => h) (Or.inl ⟨by rfl, ?_⟩) ?_ ?_
                rotate_left
                ·
                 intro w'
                 go_simp
                 with_reducible rfl
                rotate_left
                ·
                 simp only [Act.put, List.setIfInBounds_toArray, List.set_cons_zero, List.set_cons_succ, i64_w, i32_w]
                 rfl
                refine pure_ (i := 19) (N := some 67) (v := ?_) (a' := ?_) #[true, true, true, true, true, true, true, true, true, true, true, true, true, true, true, true, true, true, true, true] rfl rfl (any_of HT_.out (by kernel_rfl)) (fun _ _ _ h => h) (Or.inl ⟨by rfl, ?_⟩) ?_ ?_
                rotate_left
                ·
                 intro w'
                 go_simp
                 with_reducible rfl
                rotate_left
                ·
                 simp only [Act.put, List.setIfInBounds_toArray, List.set_cons_zero, List.set_cons_succ, i64_w, i32_w]
                 rfl
                refine done_ (done_of HT_.out (by kernel_rfl)) ?_
                try go_wp2
                go_ret2
                exact ⟨by first | rfl | (simp [errW_none, errW_some] <;> rfl) | (simp [*, errW_none, errW_some] <;> rfl), bl_ HB.out⟩
              ·
               rw [if_neg c56] at H
               have c56b0 : decide ((wrap64 (a3_1 * t178)) < (rd t175 x13_2)) = false := decide_eq_false c56
               clear c56
               have H' := Aside0.mk H
               clear H
               have hnb68 := NB165_166.out
               have hnc68 := NB166_165.out
               have hnb69 := NB165_167.out
               have hnc69 := NB167_165.out
               have hcz70_0 : wr.cell? ⟨gb165, 0, none⟩ = some (.int .i64 a0_0) := (blk_cell BK165.out 0).trans rfl
               have hcz70_1 : wr.cell? ⟨gb165, 1, none⟩ = some (.int .i64 a0_1) := (blk_cell BK165.out 1).trans rfl
               have hcz70_2 : wr.cell? ⟨gb165, 2, none⟩ = some (.int .i64 a0_2) := (blk_cell BK165.out 2).trans rfl
               have hfz70_0 := blk_frozen BK165.out 0
               have hfz70_1 := blk_frozen BK165.out 1
               have hfz70_2 := blk_frozen BK165.out 2
               try go_wp2_with (first | ((with_reducible refine gate_callee (f := 136) rfl ?_); refine goesL_ (some 47) rfl rfl Try.func136 (by kernel_rfl) rfl #[.int .i64 a0_2, .int .i64 x13_2] rfl (by (try simp only [List.map_toArray, List.map_cons, List.map_nil]); first | done | rfl | (simp only [List.length_drop, List.length_take]; rfl)) ?_; (with_reducible refine (swashplateref07_power.calls k2 a0_2 x13_2 t178 _ A41.out).mono ?_); rintro e w' ⟨rfl, ⟨nd, rfl⟩⟩; refine ⟨_, rfl, ?_⟩))
               (try (rw [drewN_self wr]; generalize hq_ : World.drewN wr _ = wr; have n0_ : Aside0 (Kd.R (Kd.int .i64) 3 wr w.heap.size (fun _ => True) v176 t175) := ⟨by rw [← hq_]; exact (by (with_reducible repeat (first | apply Kd.R_alloc | apply Kd.R_drewN | apply Kd.R_drew)); exact HO_11.out)⟩; have n1_ : Aside0 (wr.heap[gb165]? = some (.cells #[.int .i64 a0_0, .int .i64 a0_1, .int .i64 a0_2] 105 (0, 0))) := ⟨by rw [← hq_]; exact (bk_ BK165.out)⟩; have n2_ : Aside0 (wr.heap[gb166]? = some (.cells #[.int .i64 a1_0, .int .i64 a1_1] 28 (0, 0))) := ⟨by rw [← hq_]; exact (bk_ BK166.out)⟩; have n3_ : Aside0 (wr.heap[gb167]? = some (.cells #[.int .i64 a3_0, .int .i64 a3_1] 27 (0, 0))) := ⟨by rw [← hq_]; exact (bk_ BK167.out)⟩; have n4_ : Aside0 (Below w.heap.size w wr) := ⟨by rw [← hq_]; exact (bl_ HB.out)⟩; clear HO_11 BK165 BK166 BK167 HB hq_; have HO_11 := n0_; have BK165 := n1_; have BK166 := n2_; have BK167 := n3_; have HB := n4_; clear n0_ n1_ n2_ n3_ n4_))
               have n0_ := Aside0.mk (Kd.R_drew HO_11.out)
               have n1_ := Aside0.mk (blk_drew BK165.out)
               have n2_ := Aside0.mk (blk_drew BK166.out)
               have n3_ := Aside0.mk (blk_drew BK167.out)
               have n4_ := Aside0.mk (below_drew1 HB.out)
               clear HO_11 BK165 BK166 BK167 HB
               have HO_11 := n0_
               have BK165 := n1_
               have BK166 := n2_
               have BK167 := n3_
               have HB := n4_
               clear n0_ n1_ n2_ n3_ n4_
               obtain ⟨Ao72, co72, eo72⟩ := Kd.R_slice HO_11.out
               (first | subst eo72 | (injection eo72 with f1_ f2_ f3_; have f4_ := f1_.symm; have f5_ := f3_.symm; clear f1_ f2_ f3_; subst f4_; subst f5_))
               have p179 : 0 ≤ (x13_2 : Int) := of_decide_eq_true (by first | (with_reducible assumption) | assumption)
               have q179 : x13_2 < (t175.length : Int) := of_decide_eq_true (by first | (with_reducible assumption) | assumption)
               obtain ⟨ad179, e179, hx179_0⟩ := Kd.at_int (Kd.R_reads' HO_11.out).2.2 x13_2 p179 q179
               cases e179
               replace p179 := eq_true p179
               replace q179 := eq_true q179
               have p180 : 0 ≤ (x13_2 : Int) := of_decide_eq_true (by first | (with_reducible assumption) | assumption)
               have q180 : x13_2 < (t175.length : Int) := of_decide_eq_true (by first | (with_reducible assumption) | assumption)
               obtain ⟨ad180, e180, hx180_0⟩ := Kd.at_int (Kd.R_reads' HO_11.out).2.2 x13_2 p180 q180
               obtain rfl : ad179 = ad180 := (by injection e180)
               replace p180 := eq_true p180
               replace q180 := eq_true q180
               refine start_ (n := 20) (S := fun w' => w'.cell? ⟨gb167, 0, none⟩ = some (.int .i64 a3_0) ∧ w'.cell? ⟨gb167, 1, none⟩ = some (.int .i64 a3_1) ∧ w'.cell? (ad179.add (x13_2).toNat) = some (.int .i64 (rd t175 x13_2)) ∧ w'.cell? (ad179.add (x13_2).toNat) = some (.int .i64 (rd t175 x13_2))) (ds := []) #[false, false, false, false, false, false, false, false, false, false, false, false, false, false, false, false, false, false, false, false] (by kernel_rfl) rfl rfl ⟨(blk_cell BK167.out 0).trans rfl, (blk_cell BK167.out 1).trans rfl, hx179_0, hx180_0⟩ (fun hHeld => ?_); refine with_tabW swashplateref07_Calm.tab14 swashplateref07_Calm.bits14 (fun HT_ HW_ => ?_)
               generalize wr.drew = w71 at HO_11 BK165 BK166 BK167 HB hx179_0 hx180_0 hHeld ⊢
               refine pure_ (i := 0) (N := some 48) (v := ?_) (a' := ?_) #[true, false, false, false, false, false, false, false, false, false, false, false, false, false, false, false, false, false, false, false] rfl rfl (any_of HT_.out (by kernel_rfl)) (fun _ _ _ h => h) (Or.inl ⟨by rfl, ?_⟩) ?_ ?_
               rotate_left
               ·
                intro w'
                go_simp
                with_reducible rfl
               rotate_left
               ·
                simp only [Act.put, List.setIfInBounds_toArray, List.set_cons_zero, List.set_cons_succ, i64_w, i32_w]
                rfl
               refine pure_ (i := 1) (N := some 49) (v := ?_) (a' := ?_) #[true, true, false, false, false, false, false, false, false, false, false, false, false, false, false, false, false, false, false, false] rfl rfl (any_of HT_.out (by kernel_rfl)) (fun _ _ _ h => h) (Or.inl ⟨by rfl, ?_⟩) ?_ ?_
               rotate_left
               ·
                intro w'
                go_simp
                with_reducible rfl
               rotate_left
               ·
                simp only [Act.put, List.setIfInBounds_toArray, List.set_cons_zero, List.set_cons_succ, i64_w, i32_w]
                rfl
               refine pure_ (i := 2) (N := some 50) (v := ?_) (a' := ?_) #[true, true, true, false, false, false, false, false, false, false, false, false, false, false, false, false, false, false, false, false] rfl rfl (any_of HT_.out (by kernel_rfl)) (fun _ _ _ h => h) (Or.inl ⟨by rfl, ?_⟩) ?_ ?_
               rotate_left
               ·
                intro w'
                go_simp
                with_reducible rfl
               rotate_left
               ·
                simp only [Act.put, List.setIfInBounds_toArray, List.set_cons_zero, List.set_cons_succ, i64_w, i32_w]
                rfl
               refine pure_ (i := 4) (N := some 52) (v := ?_) (a' := ?_) #[true, true, true, false, true, false, false, false, false, false, false, false, false, false, false, false, false, false, false, false] rfl rfl (any_of HT_.out (by kernel_rfl)) (fun _ _ _ h => h) (Or.inl ⟨by rfl, ?_⟩) ?_ ?_
               rotate_left
               ·
                intro w'
                go_simp
                with_reducible rfl
               rotate_left
               ·
                simp only [Act.put, List.setIfInBounds_toArray, List.set_cons_zero, List.set_cons_succ, i64_w, i32_w]
                rfl
               refine pure_ (i := 6) (N := some 54) (v := ?_) (a' := ?_) #[true, true, true, false, true, false, true, false, false, false, false, false, false, false, false, false, false, false, false, false] rfl rfl (any_of HT_.out (by kernel_rfl)) (fun _ _ _ h => h) (Or.inl ⟨by rfl, ?_⟩) ?_ ?_
               rotate_left
               ·
                intro w'
                go_simp
                with_reducible rfl
               rotate_left
               ·
                simp only [Act.put, List.setIfInBounds_toArray, List.set_cons_zero, List.set_cons_succ, i64_w, i32_w]
                rfl
               refine take_ (i := 3) (N := some 51) (v := ?_) (a' := ?_) #[true, true, true, true, true, false, true, false, false, false, false, false, false, false, false, false, false, false, false, false] rfl rfl (take_ofW HT_.out HW_.out (by kernel_rfl)) (fun _ _ _ h => h) (Or.inl ⟨by rfl, ?_⟩) hHeld ?_ ?_
               rotate_left
               ·
                rintro w' ⟨s0, s1, s2, s3⟩
                go_simp
                with_reducible rfl
               rotate_left
               ·
                simp only [Act.put, List.setIfInBounds_toArray, List.set_cons_zero, List.set_cons_succ, i64_w, i32_w]
                rfl
               refine take_ (i := 5) (N := some 53) (v := ?_) (a' := ?_) #[true, true, true, true, true, true, true, false, false, false, false, false, false, false, false, false, false, false, false, false] rfl rfl (take_ofW HT_.out HW_.out (by kernel_rfl)) (fun _ _ _ h => h) (Or.inl ⟨by rfl, ?_⟩) hHeld ?_ ?_
               rotate_left
               ·
                rintro w' ⟨s0, s1, s2, s3⟩
                go_simp
                with_reducible rfl
               rotate_left
               ·
                simp only [Act.put, List.setIfInBounds_toArray, List.set_cons_zero, List.set_cons_succ, i64_w, i32_w]
                rfl
               refine pure_ (i := 7) (N := some 55) (v := ?_) (a' := ?_) #[true, true, true, true, true, true, true, true, false, false, false, false, false, false, false, false, false, false, false, false] rfl rfl (any_of HT_.out (by kernel_rfl)) (fun _ _ _ h => h) (Or.inl ⟨by rfl, ?_⟩) ?_ ?_
               rotate_left
               ·
                intro w'
                go_simp
                with_reducible rfl
               rotate_left
               ·
                simp only [Act.put, List.setIfInBounds_toArray, List.set_cons_zero, List.set_cons_succ, i64_w, i32_w]
                rfl
               refine pure_ (i := 8) (N := some 56) (v := ?_) (a' := ?_) #[true, true, true, true, true, true, true, true, true, false, false, false, false, false, false, false, false, false, false, false] rfl rfl (any_of HT_.out (by kernel_rfl)) (fun _ _ _ h => h) (Or.inl ⟨by rfl, ?_⟩) ?_ ?_
               rotate_left
               ·
                intro w'
                go_simp
                with_reducible rfl
               rotate_left
               ·
                simp only [Act.put, List.setIfInBounds_toArray, List.set_cons_zero, List.set_cons_succ, i64_w, i32_w]
                rfl
               refine pure_ (i := 9) (N := some 57) (v := ?_) (a' := ?_) #[true, true, true, true, true, true, true, true, true, true, false, false, false, false, false, false, false, false, false, false] rfl rfl (any_of HT_.out (by kernel_rfl)) (fun _ _ _ h => h) (Or.inl ⟨by rfl, ?_⟩) ?_ ?_
               rotate_left
               ·
                intro w'
                go_simp
                with_reducible rfl
               rotate_left
               ·
                simp only [Act.put, List.setIfInBounds_toArray, List.set_cons_zero, List.set_cons_succ, i64_w, i32_w]
                rfl
               refine pure_ (i := 10) (N := some 58) (v := ?_) (a' := ?_) #[true, true, true, true, true, true, true, true, true, true, true, false, false, false, false, false, false, false, false, false] rfl rfl (any_of HT_.out (by kernel_rfl)) (fun _ _ _ h => h) (Or.inl ⟨by rfl, ?_⟩) ?_ ?_
               rotate_left
               ·
                intro w'
                go_simp
                with_reducible rfl
               rotate_left
               ·
                simp only [Act.put, List.setIfInBounds_toArray, List.set_cons_zero, List.set_cons_succ, i64_w, i32_w]
                rfl
               refine pure_ (i := 11) (N := some 59) (v := ?_) (a' := ?_) #[true, true, true, true, true, true, true, true, true, true, true, true, false, false, false, false, false, false, false, false] rfl rfl (any_of HT_.out (by kernel_rfl)) (fun _ _ _ h => h) (Or.inl ⟨by rfl, ?_⟩) ?_ ?_
               rotate_left
               ·
                intro w'
                go_simp
                with_reducible rfl
               rotate_left
               ·
                simp only [Act.put, List.setIfInBounds_toArray, List.set_cons_zero, List.set_cons_succ, i64_w, i32_w]
                rfl
               refine pure_ (i := 12) (N := some 60) (v := ?_) (a' := ?_) #[true, true, true, true, true, true, true, true, true, true, true, true, true, false, false, false, false, false, false, false] rfl rfl (any_of HT_.out (by kernel_rfl)) (fun _ _ _ h => h) (Or.inl ⟨by rfl, ?_⟩) ?_ ?_
               rotate_left
               ·
                intro w'
                go_simp
                with_reducible rfl
               rotate_left
               ·
                simp only [Act.put, List.setIfInBounds_toArray, List.set_cons_zero, List.set_cons_succ, i64_w, i32_w]
                rfl
               refine pure_ (i := 14) (N := some 62) (v := ?_) (a' := ?_) #[true, true, true, true, true, true, true, true, true, true, true, true, true, false, true, false, false, false, false, false] rfl rfl (any_of HT_.out (by kernel_rfl)) (fun _ _ _ h => h) (Or.inl ⟨by rfl, ?_⟩) ?_ ?_
               rotate_left
               ·
                intro w'
                go_simp
                with_reducible rfl
               rotate_left
               ·
                simp only [Act.put, List.setIfInBounds_toArray, List.set_cons_zero, List.set_cons_succ, i64_w, i32_w]
                rfl
               refine pure_ (i := 16) (N := some 64) (v := ?_) (a' := ?_) #[true, true, true, true, true, true, true, true, true, true, true, true, true, false, true, false, true, false, false, false] rfl rfl (any_of HT_.out (by kernel_rfl)) (fun _ _ _ h => h) (Or.inl ⟨by rfl, ?_⟩) ?_ ?_
               rotate_left
               ·
                intro w'
                go_simp
                with_reducible rfl
               rotate_left
               ·
                simp only [Act.put, List.setIfInBounds_toArray, List.set_cons_zero, List.set_cons_succ, i64_w, i32_w]
                rfl
               refine take_ (i := 13) (N := some 61) (v := ?_) (a' := ?_) #[true, true, true, true, true, true, true, true, true, true, true, true, true, true, true, false, true, false, false, false] rfl rfl (take_ofW HT_.out HW_.out (by kernel_rfl)) (fun _ _ _ h => h) (Or.inl ⟨by rfl, ?_⟩) hHeld ?_ ?_
               rotate_left
               ·
                rintro w' ⟨s0, s1, s2, s3⟩
                go_simp
                with_reducible rfl
               rotate_left
               ·
                simp only [Act.put, List.setIfInBounds_toArray, List.set_cons_zero, List.set_cons_succ, i64_w, i32_w]
                rfl
               refine take_ (i := 15) (N := some 63) (v := ?_) (a' := ?_) #[true, true, true, true, true, true, true, true, true, true, true, true, true, true, true, true, true, false, false, false] rfl rfl (take_ofW HT_.out HW_.out (by kernel_rfl)) (fun _ _ _ h => h) (Or.inl ⟨by rfl, ?_⟩) hHeld ?_ ?_
               rotate_left
               ·
                rintro w' ⟨s0, s1, s2, s3⟩
                go_simp
                with_reducible rfl
               rotate_left
               ·
                simp only [Act.put, List.setIfInBounds_toArray, List.set_cons_zero, List.set_cons_succ, i64_w, i32_w]
                rfl
               refine pure_ (i := 17) (N := some 65) (v := ?_) (a' := ?_) #[true, true, true, true, true, true, true, true, true, true, true, true, true, true, true, true, true, true, false, false] rfl rfl (any_of HT_.out (by kernel_rfl)) (fun _ _ _ h => h) (Or.inl ⟨by rfl, ?_⟩) ?_ ?_
               rotate_left
               ·
                intro w'
                go_simp
                with_reducible rfl
               rotate_left
               ·
                simp only [Act.put, List.setIfInBounds_toArray, List.set_cons_zero, List.set_cons_succ, i64_w, i32_w]
                rfl
               refine pure_ (i := 18) (N := some 66) (v := ?_) (a' := ?_) #[true, true, true, true, true, true, true, true, true, true, true, true, true, true, true, true, true, true, true, false] rfl rfl (any_of HT_.out (by kernel_rfl)) (fun _ _ _ h => h) (Or.inl ⟨by rfl, ?_⟩) ?_ ?_
               rotate_left
               ·
                intro w'
                go_simp
                with_reducible rfl
               rotate_left
               ·
                simp only [Act.put, List.setIfInBounds_toArray, List.set_cons_zero, List.set_cons_succ, i64_w, i32_w]
                rfl
               refine pure_ (i := 19) (N := some 67) (v := ?_) (a' := ?_) #[true, true, true, true, true, true, true, true, true, true, true, true, true, true, true, true, true, true, true, true] rfl rfl (any_of HT_.out (by kernel_rfl)) (fun _ _ _ h => h) (Or.inl ⟨by rfl, ?_⟩) ?_ ?_
               rotate_left
               ·
                intro w'
                go_simp
                with_reducible rfl
               rotate_left
               ·
                simp only [Act.put, List.setIfInBounds_toArray, List.set_cons_zero, List.set_cons_succ, i64_w, i32_w]
                rfl
               refine done_ (done_of HT_.out (by kernel_rfl)) ?_
               try go_wp2
               go_roundg k2
               case measure => have := HJ8.out; have := HK2.out; omega
               case rel => exact ⟨(x13_2), (wrap64 (x13_2 - 1)), (by first | rfl | (simp; done) | (simp [*]; done)), (by first | rfl | (simp; done) | (simp [*]; done)), H', ⟨by have := HJ8.out; have := HK2.out; omega⟩, ⟨by (with_reducible repeat (first | apply Kd.R_alloc | apply Kd.R_drewN | apply Kd.R_drew)); exact HO_11.out⟩, ⟨bk_ BK165.out⟩, ⟨bk_ BK166.out⟩, ⟨bk_ BK167.out⟩, ⟨bl_ HB.out⟩⟩
            ·
             rw [if_neg c43] at H
             exact absurd H (by simp)
           ·
            rw [if_neg c42] at H
            exact absurd H (by simp)
          ·
           rw [if_neg c40] at H
           have c40b0 : decide (0 ≤ x13_2) = false := decide_eq_false c40
           clear c40
           by_cases c73 : x12_2 < 0
           ·
            rw [if_pos c73] at H
            have c73b0 : decide (x12_2 < 0) = true := decide_eq_true c73
            clear c73
            simp only [Option.some.injEq, Prod.mk.injEq] at H
            obtain ⟨rfl, rfl⟩ := H
            go_wp2
            go_ret2
            exact ⟨by first | rfl | (simp [errW_none, errW_some] <;> rfl) | (simp [*, errW_none, errW_some] <;> rfl), bl_ HB.out⟩
           ·
            rw [if_neg c73] at H
            have c73b0 : decide (x12_2 < 0) = false := decide_eq_false c73
            clear c73
            simp only [Option.some.injEq, Prod.mk.injEq] at H
            obtain ⟨rfl, rfl⟩ := H
            go_wp2
            go_ret2
            exact ⟨by first | rfl | (simp [errW_none, errW_some] <;> rfl) | (simp [*, errW_none, errW_some] <;> rfl), bl_ HB.out⟩
       ·
        rw [if_neg c33] at H
        exact absurd H (by simp)
      ·
       rw [if_neg c32] at H
       exact absurd H (by simp)
  ·
   replace c8 := Bool.eq_false_iff.mpr c8
   subst c8
   have H1 : (some (0, 10)) = some (r1, r2) := by rw [if_neg (show ¬ (false = true) by decide)] at H; exact H
   clear H
   have H := H1
   clear H1
   simp only [Option.some.injEq, Prod.mk.injEq] at H
   obtain ⟨rfl, rfl⟩ := H
   go_enter Try.func74, Try.ntmps74
   go_wp2_with (first | ((with_reducible refine gate_dst (N := 4) rfl ?_); refine box_event ?hg (N := 4) ?hd (cs := #[.int .i64 a0_0, .int .i64 a0_1, .int .i64 a0_2]) (t := 105) ?hr ?_; (case hd => rfl); (case hg => rfl); (case hr => first | (go_simp; done) | (go_simp; rfl)); intro gb165 hg w74 hbox hb; have n0_ := Aside0.mk (below_step (bl_ HB.out) hb); have n1_ := Aside0.mk (hbox); have n2_ := Aside0.mk (szl_ hg HB.out); have n3_ := Aside0.mk (szl_ hg HB.out); clear HB; have HB := n0_; have BK165 := n1_; have GW165 := n2_; have GE165 := n3_; clear n0_ n1_ n2_ n3_ hb hbox hg) | ((with_reducible refine gate_dst (N := 5) rfl ?_); refine box_event ?hg (N := 5) ?hd (cs := #[.int .i64 a1_0, .int .i64 a1_1]) (t := 28) ?hr ?_; (case hd => rfl); (case hg => rfl); (case hr => first | (go_simp; done) | (go_simp; rfl)); intro gb166 hg w75 hbox hb; have n0_ := Aside0.mk (blk_below (bk_ BK165.out) hb); have n1_ := Aside0.mk (below_step (bl_ HB.out) hb); have n2_ := Aside0.mk (hbox); have n3_ := Aside0.mk (szl_ hg HB.out); have n4_ := Aside0.mk (szl_ hg HB.out); have n5_ := Aside0.mk (nel_ hg BK165.out); have n6_ := Aside0.mk (ner_ hg BK165.out); clear BK165 HB; have BK165 := n0_; have HB := n1_; have BK166 := n2_; have GW166 := n3_; have GE166 := n4_; have NB165_166 := n5_; have NB166_165 := n6_; clear n0_ n1_ n2_ n3_ n4_ n5_ n6_ hb hbox hg) | ((with_reducible refine gate_dst (N := 7) rfl ?_); refine box_event ?hg (N := 7) ?hd (cs := #[.int .i64 a3_0, .int .i64 a3_1]) (t := 27) ?hr ?_; (case hd => rfl); (case hg => rfl); (case hr => first | (go_simp; done) | (go_simp; rfl)); intro gb167 hg w76 hbox hb; have n0_ := Aside0.mk (blk_below (bk_ BK165.out) hb); have n1_ := Aside0.mk (blk_below (bk_ BK166.out) hb); have n2_ := Aside0.mk (below_step (bl_ HB.out) hb); have n3_ := Aside0.mk (hbox); have n4_ := Aside0.mk (szl_ hg HB.out); have n5_ := Aside0.mk (szl_ hg HB.out); have n6_ := Aside0.mk (nel_ hg BK165.out); have n7_ := Aside0.mk (ner_ hg BK165.out); have n8_ := Aside0.mk (nel_ hg BK166.out); have n9_ := Aside0.mk (ner_ hg BK166.out); clear BK165 BK166 HB; have BK165 := n0_; have BK166 := n1_; have HB := n2_; have BK167 := n3_; have GW167 := n4_; have GE167 := n5_; have NB165_167 := n6_; have NB167_165 := n7_; have NB166_167 := n8_; have NB167_166 := n9_; clear n0_ n1_ n2_ n3_ n4_ n5_ n6_ n7_ n8_ n9_ hb hbox hg; have hnb77 := NB165_166.out; have hnc77 := NB166_165.out; have hnb78 := NB165_167.out; have hnc78 := NB167_165.out; have hcz79_0 : w76.cell? ⟨gb165, 0, none⟩ = some (.int .i64 a0_0) := (blk_cell BK165.out 0).trans rfl; have hcz79_1 : w76.cell? ⟨gb165, 1, none⟩ = some (.int .i64 a0_1) := (blk_cell BK165.out 1).trans rfl; have hcz79_2 : w76.cell? ⟨gb165, 2, none⟩ = some (.int .i64 a0_2) := (blk_cell BK165.out 2).trans rfl; have hfz79_0 := blk_frozen BK165.out 0; have hfz79_1 := blk_frozen BK165.out 1; have hfz79_2 := blk_frozen BK165.out 2) | ((with_reducible refine gate_callee (f := 69) rfl ?_); refine goesL_ (some 16) rfl rfl Try.func69 (by kernel_rfl) rfl #[.agg #[.int .i64 a0_0, .int .i64 a0_1, .int .i64 a0_2]] rfl (by (try simp only [List.map_toArray, List.map_cons, List.map_nil]); first | done | rfl | (simp only [List.length_drop, List.length_take]; rfl)) ?_; (with_reducible refine (swashplateref07_Check.calls a0_0 a0_1 a0_2 t168 _ A5.out).mono ?_); rintro e w80 ⟨rfl, hb⟩; refine ⟨_, rfl, ?_⟩; have n0_ := Aside0.mk (blk_below (bk_ BK165.out) hb); have n1_ := Aside0.mk (blk_below (bk_ BK166.out) hb); have n2_ := Aside0.mk (blk_below (bk_ BK167.out) hb); have n3_ := Aside0.mk (below_step (bl_ HB.out) hb); clear BK165 BK166 BK167 HB; have BK165 := n0_; have BK166 := n1_; have BK167 := n2_; have HB := n3_; clear n0_ n1_ n2_ n3_; (try clear hb); (try clear hb2); (try clear hk); (try clear hi); have hnb81 := NB167_166.out; have hnc81 := NB166_167.out; have hcz82_0 : w80.cell? ⟨gb167, 0, none⟩ = some (.int .i64 a3_0) := (blk_cell BK167.out 0).trans rfl; have hcz82_1 : w80.cell? ⟨gb167, 1, none⟩ = some (.int .i64 a3_1) := (blk_cell BK167.out 1).trans rfl; have hfz82_0 := blk_frozen BK167.out 0; have hfz82_1 := blk_frozen BK167.out 1) | ((with_reducible refine gate_callee (f := 40) rfl ?_); refine goesL_ (some 21) rfl rfl Try.func40 (by kernel_rfl) rfl #[.agg #[.int .i64 a3_0, .int .i64 a3_1]] rfl (by (try simp only [List.map_toArray, List.map_cons, List.map_nil]); first | done | rfl | (simp only [List.length_drop, List.length_take]; rfl)) ?_; (with_reducible refine (swashplateref01_Valid.calls a3_0 a3_1 false _ A7.out).mono ?_); rintro e w83 ⟨rfl, hb⟩; refine ⟨_, rfl, ?_⟩; have n0_ := Aside0.mk (blk_below (bk_ BK165.out) hb); have n1_ := Aside0.mk (blk_below (bk_ BK166.out) hb); have n2_ := Aside0.mk (blk_below (bk_ BK167.out) hb); have n3_ := Aside0.mk (below_step (bl_ HB.out) hb); clear BK165 BK166 BK167 HB; have BK165 := n0_; have BK166 := n1_; have BK167 := n2_; have HB := n3_; clear n0_ n1_ n2_ n3_; (try clear hb); (try clear hb2); (try clear hk); (try clear hi)))
   go_ret2
   exact ⟨by first | rfl | (simp [errW_none, errW_some] <;> rfl) | (simp [*, errW_none, errW_some] <;> rfl), bl_ HB.out⟩
 ·
  rw [if_neg c6] at H
  have c6b0 : (t168 == 0) = false := beq_eq_false_iff_ne.mpr c6
  have c6b1 : (t168 != 0) = true := bne_iff_ne.mpr c6
  simp only [Option.some.injEq, Prod.mk.injEq] at H
  obtain ⟨rfl, rfl⟩ := H
  go_enter Try.func74, Try.ntmps74
  go_wp2_with (first | ((with_reducible refine gate_dst (N := 4) rfl ?_); refine box_event ?hg (N := 4) ?hd (cs := #[.int .i64 a0_0, .int .i64 a0_1, .int .i64 a0_2]) (t := 105) ?hr ?_; (case hd => rfl); (case hg => rfl); (case hr => first | (go_simp; done) | (go_simp; rfl)); intro gb165 hg w84 hbox hb; have n0_ := Aside0.mk (below_step (bl_ HB.out) hb); have n1_ := Aside0.mk (hbox); have n2_ := Aside0.mk (szl_ hg HB.out); have n3_ := Aside0.mk (szl_ hg HB.out); clear HB; have HB := n0_; have BK165 := n1_; have GW165 := n2_; have GE165 := n3_; clear n0_ n1_ n2_ n3_ hb hbox hg) | ((with_reducible refine gate_dst (N := 5) rfl ?_); refine box_event ?hg (N := 5) ?hd (cs := #[.int .i64 a1_0, .int .i64 a1_1]) (t := 28) ?hr ?_; (case hd => rfl); (case hg => rfl); (case hr => first | (go_simp; done) | (go_simp; rfl)); intro gb166 hg w85 hbox hb; have n0_ := Aside0.mk (blk_below (bk_ BK165.out) hb); have n1_ := Aside0.mk (below_step (bl_ HB.out) hb); have n2_ := Aside0.mk (hbox); have n3_ := Aside0.mk (szl_ hg HB.out); have n4_ := Aside0.mk (szl_ hg HB.out); have n5_ := Aside0.mk (nel_ hg BK165.out); have n6_ := Aside0.mk (ner_ hg BK165.out); clear BK165 HB; have BK165 := n0_; have HB := n1_; have BK166 := n2_; have GW166 := n3_; have GE166 := n4_; have NB165_166 := n5_; have NB166_165 := n6_; clear n0_ n1_ n2_ n3_ n4_ n5_ n6_ hb hbox hg) | ((with_reducible refine gate_dst (N := 7) rfl ?_); refine box_event ?hg (N := 7) ?hd (cs := #[.int .i64 a3_0, .int .i64 a3_1]) (t := 27) ?hr ?_; (case hd => rfl); (case hg => rfl); (case hr => first | (go_simp; done) | (go_simp; rfl)); intro gb167 hg w86 hbox hb; have n0_ := Aside0.mk (blk_below (bk_ BK165.out) hb); have n1_ := Aside0.mk (blk_below (bk_ BK166.out) hb); have n2_ := Aside0.mk (below_step (bl_ HB.out) hb); have n3_ := Aside0.mk (hbox); have n4_ := Aside0.mk (szl_ hg HB.out); have n5_ := Aside0.mk (szl_ hg HB.out); have n6_ := Aside0.mk (nel_ hg BK165.out); have n7_ := Aside0.mk (ner_ hg BK165.out); have n8_ := Aside0.mk (nel_ hg BK166.out); have n9_ := Aside0.mk (ner_ hg BK166.out); clear BK165 BK166 HB; have BK165 := n0_; have BK166 := n1_; have HB := n2_; have BK167 := n3_; have GW167 := n4_; have GE167 := n5_; have NB165_167 := n6_; have NB167_165 := n7_; have NB166_167 := n8_; have NB167_166 := n9_; clear n0_ n1_ n2_ n3_ n4_ n5_ n6_ n7_ n8_ n9_ hb hbox hg; have hnb87 := NB165_166.out; have hnc87 := NB166_165.out; have hnb88 := NB165_167.out; have hnc88 := NB167_165.out; have hcz89_0 : w86.cell? ⟨gb165, 0, none⟩ = some (.int .i64 a0_0) := (blk_cell BK165.out 0).trans rfl; have hcz89_1 : w86.cell? ⟨gb165, 1, none⟩ = some (.int .i64 a0_1) := (blk_cell BK165.out 1).trans rfl; have hcz89_2 : w86.cell? ⟨gb165, 2, none⟩ = some (.int .i64 a0_2) := (blk_cell BK165.out 2).trans rfl; have hfz89_0 := blk_frozen BK165.out 0; have hfz89_1 := blk_frozen BK165.out 1; have hfz89_2 := blk_frozen BK165.out 2) | ((with_reducible refine gate_callee (f := 69) rfl ?_); refine goesL_ (some 16) rfl rfl Try.func69 (by kernel_rfl) rfl #[.agg #[.int .i64 a0_0, .int .i64 a0_1, .int .i64 a0_2]] rfl (by (try simp only [List.map_toArray, List.map_cons, List.map_nil]); first | done | rfl | (simp only [List.length_drop, List.length_take]; rfl)) ?_; (with_reducible refine (swashplateref07_Check.calls a0_0 a0_1 a0_2 t168 _ A5.out).mono ?_); rintro e w90 ⟨rfl, hb⟩; refine ⟨_, rfl, ?_⟩; have n0_ := Aside0.mk (blk_below (bk_ BK165.out) hb); have n1_ := Aside0.mk (blk_below (bk_ BK166.out) hb); have n2_ := Aside0.mk (blk_below (bk_ BK167.out) hb); have n3_ := Aside0.mk (below_step (bl_ HB.out) hb); clear BK165 BK166 BK167 HB; have BK165 := n0_; have BK166 := n1_; have BK167 := n2_; have HB := n3_; clear n0_ n1_ n2_ n3_; (try clear hb); (try clear hb2); (try clear hk); (try clear hi)))
  go_ret2
  exact ⟨by first | rfl | (simp [errW_none, errW_some] <;> rfl) | (simp [*, errW_none, errW_some] <;> rfl), bl_ HB.out⟩
end Go.Proofs.Yteodlmgmmpkpoaa.PS
end
section
namespace Go.Proofs.Yteodlmgmmpkpoaa.PS
open Go.RowKit Go.Proofs.YteodlmgmmpkpoaaW.PrintWords Go.Proofs.YteodlmgmmpkpoaaW.PrintLast Go.Proofs.YteodlmgmmpkpoaaW.PrintMore
set_option linter.unusedVariables false
set_option linter.unusedSimpArgs false
def ldC (n m D : Int) (s : Ld) : Array Value := #[.int .i64 n, .int .i64 m, .int .i64 D, .int .i64 s.a, .int .i64 s.v, .int .i64 s.d]
def LdP (g : Nat) (cs : Array Value) (w w' : World) : Prop := w'.heap[g]? = some (.cells cs 177 (0, 0)) ∧ Kept w w' (fun k => k = g) ∧ Below g w w'
theorem LdP.mk0 {g : Nat} {cs cs' : Array Value} {w w1 : World} {i : Nat} {u : Value} (h : w.heap[g]? = some (.cells cs 177 (0, 0))) (e : cs.setIfInBounds i u = cs') (h1 : w1 = w.drew) : LdP g cs' w (w1.setCell ⟨g, i, none⟩ u) := by
  subst h1
  exact ⟨blk_put (blk_drew h) i u e, Kept.setCell (p := ⟨g, i, none⟩) (S := fun k => k = g) (Kept.refl w _).drew (.inl rfl) u, (below_drew (Below.refl g w)).setCell (Nat.le_refl _) _⟩
theorem LdP.trans {g : Nat} {cs cs' : Array Value} {w w1 w' : World} (h : LdP g cs w w1) (k : LdP g cs' w1 w') : LdP g cs' w w' :=
  ⟨k.1, h.2.1.then_ k.2.1 (fun _ hk => .inl hk), h.2.2.trans k.2.2⟩
set_option maxRecDepth 100000 in
set_option maxHeartbeats 4000000 in
theorem sling_tick.calls (g : Nat) (n m D : Int) (s : Ld) (gust : Int) (w : World) (h : w.heap[g]? = some (.cells (ldC n m D s) 177 (0, 0))) :
    Calls Try.prog 131 #[.pointer (some ⟨g, 0, none⟩), .int .i64 gust] w fun e w' => e = .returned (.tuple #[]) ∧ LdP g (ldC n m D (tkL n m D s gust)) w w' := by
  obtain ⟨a, v, d⟩ := s
  replace h : w.heap[g]? = some (.cells #[.int .i64 n, .int .i64 m, .int .i64 D, .int .i64 a, .int .i64 v, .int .i64 d] 177 (0, 0)) := h
  have c2 : w.cell? ⟨g, 2, none⟩ = some (.int .i64 D) := (blk_cell h 2).trans rfl
  have c5 : w.cell? ⟨g, 5, none⟩ = some (.int .i64 d) := (blk_cell h 5).trans rfl
  have f5 : w.drew.frozen? ⟨g, 5, none⟩ = false := blk_frozen (blk_drew h) 5
  have p5 : w.drew.cell? ⟨g, 5, none⟩ = some (.int .i64 d) := c5
  have H := Aside0.mk h
  clear h
  go_enter Try.func131, Try.ntmps131
  go_wp2
  go_still_tail 12, (by kernel_rfl)
  change wpList _ _ _ _ _ w.drew
  obtain ⟨w1, hw1⟩ : ∃ w1, w.drew = w1 := ⟨_, rfl⟩
  have HW1 := Aside0.mk hw1
  rw [hw1] at f5 p5 ⊢
  simp only [i64_w]
  obtain ⟨d', hd⟩ : ∃ d', wrap64 (d * D) = d' := ⟨_, rfl⟩
  rw [hd]
  have HD := Aside0.mk hd
  clear hw1 hd c2 c5
  go_wp2
  have hp := LdP.mk0 (i := 5) (u := .int .i64 d') H.out rfl HW1.out.symm
  obtain ⟨w2, hw2⟩ : ∃ w2, w1.setCell ⟨g, 5, none⟩ (.int .i64 d') = w2 := ⟨_, rfl⟩
  rw [hw2] at hp ⊢
  have k : w2.heap[g]? = some (.cells #[.int .i64 n, .int .i64 m, .int .i64 D, .int .i64 a, .int .i64 v, .int .i64 d'] 177 (0, 0)) := hp.1
  have HP := Aside0.mk hp
  have H2 := Aside0.mk k
  have c0 : w2.cell? ⟨g, 0, none⟩ = some (.int .i64 n) := (blk_cell k 0).trans rfl
  have c1 : w2.cell? ⟨g, 1, none⟩ = some (.int .i64 m) := (blk_cell k 1).trans rfl
  have c2 : w2.cell? ⟨g, 2, none⟩ = some (.int .i64 D) := (blk_cell k 2).trans rfl
  have c3 : w2.cell? ⟨g, 3, none⟩ = some (.int .i64 a) := (blk_cell k 3).trans rfl
  have c4 : w2.cell? ⟨g, 4, none⟩ = some (.int .i64 v) := (blk_cell k 4).trans rfl
  have c5 : w2.cell? ⟨g, 5, none⟩ = some (.int .i64 d') := (blk_cell k 5).trans rfl
  have f4 : w2.drew.frozen? ⟨g, 4, none⟩ = false := blk_frozen (blk_drew k) 4
  have p4 : w2.drew.cell? ⟨g, 4, none⟩ = some (.int .i64 v) := c4
  clear hw2 hp k f5 p5
  go_wp2
  go_still_tail 42, (by kernel_rfl)
  change wpList _ _ _ _ _ w2.drew
  obtain ⟨w3, hw3⟩ : ∃ w3, w2.drew = w3 := ⟨_, rfl⟩
  have HW3 := Aside0.mk hw3
  rw [hw3] at f4 p4 ⊢
  simp only [i64_w]
  obtain ⟨v', hv⟩ : ∃ v', wrap64 (wrap64 (wrap64 (wrap64 (D * v) - wrap64 (n * a)) - wrap64 (m * v)) + wrap64 (gust * d')) = v' := ⟨_, rfl⟩
  rw [hv]
  have HV := Aside0.mk hv
  clear hw3 hv c0 c1 c2 c3 c4 c5
  go_wp2
  have hp := LdP.mk0 (i := 4) (u := .int .i64 v') H2.out rfl HW3.out.symm
  obtain ⟨w4, hw4⟩ : ∃ w4, w3.setCell ⟨g, 4, none⟩ (.int .i64 v') = w4 := ⟨_, rfl⟩
  rw [hw4] at hp ⊢
  have k : w4.heap[g]? = some (.cells #[.int .i64 n, .int .i64 m, .int .i64 D, .int .i64 a, .int .i64 v', .int .i64 d'] 177 (0, 0)) := hp.1
  have HP2 := Aside0.mk hp
  have H4 := Aside0.mk k
  have c2 : w4.cell? ⟨g, 2, none⟩ = some (.int .i64 D) := (blk_cell k 2).trans rfl
  have c3 : w4.cell? ⟨g, 3, none⟩ = some (.int .i64 a) := (blk_cell k 3).trans rfl
  have c4 : w4.cell? ⟨g, 4, none⟩ = some (.int .i64 v') := (blk_cell k 4).trans rfl
  have f3 : w4.drew.frozen? ⟨g, 3, none⟩ = false := blk_frozen (blk_drew k) 3
  have p3 : w4.drew.cell? ⟨g, 3, none⟩ = some (.int .i64 a) := c3
  clear hw4 hp k f4 p4
  go_wp2
  go_still_tail 18, (by kernel_rfl)
  change wpList _ _ _ _ _ w4.drew
  obtain ⟨w5, hw5⟩ : ∃ w5, w4.drew = w5 := ⟨_, rfl⟩
  have HW5 := Aside0.mk hw5
  rw [hw5] at f3 p3 ⊢
  simp only [i64_w]
  obtain ⟨a', ha⟩ : ∃ a', wrap64 (wrap64 (D * a) + v') = a' := ⟨_, rfl⟩
  rw [ha]
  have HA := Aside0.mk ha
  clear hw5 ha c2 c3 c4
  go_wp2
  have hp := LdP.mk0 (i := 3) (u := .int .i64 a') H4.out rfl HW5.out.symm
  refine ⟨rfl, .tuple #[], by simp [results, Try.results131, go_sem], rfl, ?_⟩
  have e : ldC n m D (tkL n m D ⟨a, v, d⟩ gust) = #[.int .i64 n, .int .i64 m, .int .i64 D, .int .i64 a', .int .i64 v', .int .i64 d'] := by
    rw [← HA.out, ← HV.out, ← HD.out]; rfl
  rw [e]
  exact HP.out.trans (HP2.out.trans hp)
end Go.Proofs.Yteodlmgmmpkpoaa.PS
end
section
namespace Go.Proofs.Yteodlmgmmpkpoaa.PS
open Go.RowKit Go.Proofs.YteodlmgmmpkpoaaW.PrintWords Go.Proofs.YteodlmgmmpkpoaaW.PrintLast Go.Proofs.YteodlmgmmpkpoaaW.PrintMore
set_option linter.unusedVariables false
set_option linter.unusedSimpArgs false
theorem low_calls (a d : Int) (hd : 0 < d) (w : World) : Calls Try.prog 143 #[.int .i64 a, .int .i64 d] w fun e w' => e = .returned (.agg #[.int .i64 (lowT a d).f0, .int .i64 (lowT a d).f1]) ∧ Below w.heap.size w w' :=
  sling_lowest.calls (d.toNat + 2) a d _ _ w (slow_total a d hd _ (Nat.le_refl _))
set_option maxRecDepth 100000 in
set_option maxHeartbeats 4000000 in
theorem sling_place.calls (g : Nat) (n m D : Int) (s : Ld) (hs : 0 < s.d) (w : World) (h : w.heap[g]? = some (.cells (ldC n m D s) 177 (0, 0))) :
    Calls Try.prog 132 #[.pointer (some ⟨g, 0, none⟩)] w fun e w' => e = .returned (.agg #[.int .i64 (lowT s.a s.d).f0, .int .i64 (lowT s.a s.d).f1]) ∧ Below w.heap.size w w' := by
  obtain ⟨a, v, d⟩ := s
  replace h : w.heap[g]? = some (.cells #[.int .i64 n, .int .i64 m, .int .i64 D, .int .i64 a, .int .i64 v, .int .i64 d] 177 (0, 0)) := h
  have HS := Aside0.mk hs
  have HB := Aside0.mk h
  clear h hs
  obtain ⟨r, hr⟩ : ∃ r, lowT a d = r := ⟨_, rfl⟩
  have HR := Aside0.mk hr
  obtain ⟨r0, r1⟩ := r
  show Calls Try.prog 132 #[.pointer (some ⟨g, 0, none⟩)] w fun e w' => e = .returned (.agg #[.int .i64 (lowT a d).f0, .int .i64 (lowT a d).f1]) ∧ Below w.heap.size w w'
  rw [hr]
  clear hr
  go_enter Try.func132, Try.ntmps132
  go_wp2
  have k := blk_alloc HB.out (.cells #[.int .i64 0, .int .i64 0] 28)
  have q := blk_new w (.cells #[.int .i64 0, .int .i64 0] 28)
  have b1 : Below w.heap.size w (w.alloc (.cells #[.int .i64 0, .int .i64 0] 28)) := below_alloc (Below.refl _ _) _
  obtain ⟨w1, hw1⟩ : ∃ w1, w.alloc (.cells #[.int .i64 0, .int .i64 0] 28) = w1 := ⟨_, rfl⟩
  rw [hw1] at k q b1 ⊢
  have c3 : w1.cell? ⟨g, 3, none⟩ = some (.int .i64 a) := (blk_cell k 3).trans rfl
  have c5 : w1.cell? ⟨g, 5, none⟩ = some (.int .i64 d) := (blk_cell k 5).trans rfl
  have HB1 := Aside0.mk b1
  have HQ := Aside0.mk q
  clear k q b1 hw1
  go_still_tail 8, (by kernel_rfl)
  change wpList _ _ _ _ _ w1.drew
  have b2 : Below w.heap.size w w1.drew := below_drew HB1.out
  have q2 := blk_drew HQ.out
  generalize w1.drew = w2 at b2 q2 ⊢
  have HB2 := Aside0.mk b2
  have HQ2 := Aside0.mk q2
  clear c3 c5 b2 q2 HB HB1 HQ
  go_wp2_with (go_at_call 143; refine (low_calls a d HS.out _).mono ?_; rw [HR.out]; rintro e w3 ⟨rfl, hb3⟩; have q3 := blk_below HQ2.out hb3; have z0 : w3.cell? ⟨w.heap.size, 0, none⟩ = some (.int .i64 0) := (blk_cell q3 0).trans rfl; have z1 : w3.cell? ⟨w.heap.size, 1, none⟩ = some (.int .i64 0) := (blk_cell q3 1).trans rfl; have f0 := blk_frozen q3 0; have f1 := blk_frozen q3 1; have HQ3 := Aside0.mk q3; have HB3 := Aside0.mk (below_step HB2.out hb3); clear q3 hb3)
  refine bodyPost_ret (results_cell_row rfl _ _ w.heap.size 28 #[.int .i64 r0, .int .i64 r1] (0, 0) _ rfl (blk_put (cs := #[.int .i64 r0, .int .i64 0]) (blk_put (cs := #[.int .i64 0, .int .i64 0]) HQ3.out 0 _ rfl) 1 _ rfl) Try.underlying28 rfl (by kernel_rfl)) rfl ?_
  exact ⟨rfl, below_set (below_set HB3.out (Nat.le_refl _)) (Nat.le_refl _)⟩
end Go.Proofs.Yteodlmgmmpkpoaa.PS
end
section
namespace Go.Proofs.Yteodlmgmmpkpoaa.PS
open Go.RowKit Go.Proofs.YteodlmgmmpkpoaaW.PrintWords Go.Proofs.YteodlmgmmpkpoaaW.PrintLast Go.Proofs.YteodlmgmmpkpoaaW.PrintMore
attribute [local go_sem] max2_int min2_int max_two min_two max_three min_three max_four min_four   -- for this text's walks alone
set_option linter.unusedVariables false
set_option linter.unusedSimpArgs false
def sling_started.f (a0_0 : Int) (a0_1 : Int) : Option (Bool) := (sling_within.f a0_0 (-1000) 1000).bind fun t122 => (if t122 = true then ((sling_within.f a0_1 (-1000) 1000).bind fun t123 => (some t123)) else (some false))
set_option maxHeartbeats 8000000 in
set_option maxRecDepth 100000 in
theorem sling_started.calls (a0_0 : Int) (a0_1 : Int) (r : Bool) (w : World) (h : sling_started.f a0_0 a0_1 = some r) :
  Calls Try.prog 129 #[.agg #[.int .i64 a0_0, .int .i64 a0_1]] w fun e w' => e = .returned (.bool r) ∧ Below w.heap.size w w' := by
 have hu28 := Try.underlying28
 have HB := Aside0.mk (Below.refl w.heap.size w)
 have H : ((sling_within.f a0_0 (-1000) 1000).bind fun t122 => (if t122 = true then ((sling_within.f a0_1 (-1000) 1000).bind fun t123 => (some t123)) else (some false))) = some r := h
 clear h
 replace H := Option.bind_eq_some_iff.mp H
 obtain ⟨t122, A20, H⟩ := H
 replace H : (if t122 = true then ((sling_within.f a0_1 (-1000) 1000).bind fun t123 => (some t123)) else (some false)) = some r := H
 have A2 := Aside0.mk A20
 clear A20
 by_cases c3 : t122 = true
 ·
  subst c3
  have H1 : ((sling_within.f a0_1 (-1000) 1000).bind fun t123 => (some t123)) = some r := by rw [if_pos rfl] at H; exact H
  clear H
  have H := H1
  clear H1
  replace H := Option.bind_eq_some_iff.mp H
  obtain ⟨t123, A40, H⟩ := H
  replace H : (some t123) = some r := H
  have A4 := Aside0.mk A40
  clear A40
  obtain rfl := Option.some.inj H
  go_enter Try.func129, Try.ntmps129
  go_wp2_with (first | ((with_reducible refine gate_dst (N := 1) rfl ?_); refine box_event ?hg (N := 1) ?hd (cs := #[.int .i64 a0_0, .int .i64 a0_1]) (t := 28) ?hr ?_; (case hd => rfl); (case hg => rfl); (case hr => first | (go_simp; done) | (go_simp; rfl)); intro gb121 hg w5 hbox hb; have n0_ := Aside0.mk (below_step (bl_ HB.out) hb); have n1_ := Aside0.mk (hbox); have n2_ := Aside0.mk (szl_ hg HB.out); have n3_ := Aside0.mk (szl_ hg HB.out); clear HB; have HB := n0_; have BK121 := n1_; have GW121 := n2_; have GE121 := n3_; clear n0_ n1_ n2_ n3_ hb hbox hg; have hcz6_0 : w5.cell? ⟨gb121, 0, none⟩ = some (.int .i64 a0_0) := (blk_cell BK121.out 0).trans rfl; have hcz6_1 : w5.cell? ⟨gb121, 1, none⟩ = some (.int .i64 a0_1) := (blk_cell BK121.out 1).trans rfl; have hfz6_0 := blk_frozen BK121.out 0; have hfz6_1 := blk_frozen BK121.out 1) | ((with_reducible refine gate_callee (f := 115) rfl ?_); refine goesL_ (some 5) rfl rfl Try.func115 (by kernel_rfl) rfl #[.int .i64 a0_0, .int .i64 (-1000), .int .i64 1000] rfl (by (try simp only [List.map_toArray, List.map_cons, List.map_nil]); first | done | rfl | (simp only [List.length_drop, List.length_take]; rfl)) ?_; (with_reducible refine (sling_within.calls a0_0 (-1000) 1000 true _ A2.out).mono ?_); rintro e w' ⟨rfl, ⟨nd, rfl⟩⟩; refine ⟨_, rfl, ?_⟩) | (go_at_call 115; (with_reducible refine (sling_within.calls a0_1 (-1000) 1000 t123 _ A4.out).mono ?_); rintro e w' ⟨rfl, ⟨nd, rfl⟩⟩))
  go_ret
  exact ⟨by first | rfl | (simp [errW_none, errW_some] <;> rfl) | (simp [*, errW_none, errW_some] <;> rfl), bl_ HB.out⟩
 ·
  replace c3 := Bool.eq_false_iff.mpr c3
  subst c3
  have H1 : (some false) = some r := by rw [if_neg (show ¬ (false = true) by decide)] at H; exact H
  clear H
  have H := H1
  clear H1
  obtain rfl := Option.some.inj H
  go_enter Try.func129, Try.ntmps129
  go_wp2_with (first | ((with_reducible refine gate_dst (N := 1) rfl ?_); refine box_event ?hg (N := 1) ?hd (cs := #[.int .i64 a0_0, .int .i64 a0_1]) (t := 28) ?hr ?_; (case hd => rfl); (case hg => rfl); (case hr => first | (go_simp; done) | (go_simp; rfl)); intro gb121 hg w7 hbox hb; have n0_ := Aside0.mk (below_step (bl_ HB.out) hb); have n1_ := Aside0.mk (hbox); have n2_ := Aside0.mk (szl_ hg HB.out); have n3_ := Aside0.mk (szl_ hg HB.out); clear HB; have HB := n0_; have BK121 := n1_; have GW121 := n2_; have GE121 := n3_; clear n0_ n1_ n2_ n3_ hb hbox hg; have hcz8_0 : w7.cell? ⟨gb121, 0, none⟩ = some (.int .i64 a0_0) := (blk_cell BK121.out 0).trans rfl; have hcz8_1 : w7.cell? ⟨gb121, 1, none⟩ = some (.int .i64 a0_1) := (blk_cell BK121.out 1).trans rfl; have hfz8_0 := blk_frozen BK121.out 0; have hfz8_1 := blk_frozen BK121.out 1) | ((with_reducible refine gate_callee (f := 115) rfl ?_); refine goesL_ (some 5) rfl rfl Try.func115 (by kernel_rfl) rfl #[.int .i64 a0_0, .int .i64 (-1000), .int .i64 1000] rfl (by (try simp only [List.map_toArray, List.map_cons, List.map_nil]); first | done | rfl | (simp only [List.length_drop, List.length_take]; rfl)) ?_; (with_reducible refine (sling_within.calls a0_0 (-1000) 1000 false _ A2.out).mono ?_); rintro e w' ⟨rfl, ⟨nd, rfl⟩⟩; refine ⟨_, rfl, ?_⟩))
  go_ret
  exact ⟨by first | rfl | (simp [errW_none, errW_some] <;> rfl) | (simp [*, errW_none, errW_some] <;> rfl), bl_ HB.out⟩
end Go.Proofs.Yteodlmgmmpkpoaa.PS
end
section
namespace Go.Proofs.Yteodlmgmmpkpoaa.PS
open Go.RowKit Go.Proofs.YteodlmgmmpkpoaaW.PrintWords Go.Proofs.YteodlmgmmpkpoaaW.PrintLast Go.Proofs.YteodlmgmmpkpoaaW.PrintMore
set_option linter.unusedVariables false
set_option linter.unusedSimpArgs false
theorem st7 (a v : Int) : sling_started.f a v = some (stB a v) := by
  unfold sling_started.f stB
  rw [sw7, Option.bind_some, sw7]
  cases (decide (-1000 ≤ a) && decide (a ≤ 1000)) <;> simp
def badG (g : Int) : Bool := !guB g
theorem within_badG (x : Int) : sling_within.f x (-100) 100 = some (!badG x) := by
  rw [sw7]; unfold badG guB; rw [Bool.not_not]
theorem gust_calls (x : Int) (w : World) : Calls Try.prog 130 #[.int .i64 x] w (Yes (badG x) w) := by
  have H := Aside0.mk (within_badG x)
  go_enter Try.func130, Try.ntmps130
  go_wp2_with (go_at_call 115; refine (sling_within.calls x _ _ _ _ H.out).mono ?_; rintro e w' ⟨rfl, ⟨nd, rfl⟩⟩)
  go_ret
  exact ⟨by simp, pw_below_drewN (Below.refl _ _) _⟩
set_option maxHeartbeats 1000000 in
theorem index_gusts (A : Option Addr) (c : Nat) (l : List Int) (w : World) (hr : Kd.C (Kd.int .i64) w A l.length l) :
    Calls Try.prog 154 #[.slice A l.length c, .func (.func 130) #[] #[]] w (Place (l.any badG) w) := by
  have HR := Aside0.mk hr
  have HL := Aside0.mk hr.2.1
  clear hr
  go_enter Try.func154, Try.ntmps154
  go_wp2
  go_loopw [5, 8] (fun v5 v8 wr => ∃ x : Nat, v8 = .int .i64 x ∧ Aside0 ((l.take x).any badG = false) ∧ Aside0 (x ≤ l.length) ∧ Aside0 (Below w.heap.size w wr)) (fun _ v8 _ => l.length - (intOf v8).toNat)
  case atStart => exact ⟨0, rfl, ⟨by simp⟩, ⟨Nat.zero_le _⟩, ⟨Below.refl _ _⟩⟩
  case round =>
    obtain ⟨x, rfl, HA, HX, HB⟩ := hrel
    by_cases c1 : x < l.length
    · obtain ⟨ad, e0, hx0⟩ := Kd.at_int HR.out (x : Int) (by omega) (by omega)
      rw [Int.toNat_natCast] at hx0
      have q0 := (HB.out.cell (p := ad.add x) (World.block_lt_of_cell? _ _ hx0)).trans hx0
      have hlen := HL.out
      have HS := Aside0.mk (any_snoc l 0 badG x c1)
      subst e0
      clear hx0 HX
      cases hb1 : badG (rd l x) with
      | false =>
        have HV := Aside0.mk hb1
        clear hb1
        go_wp2_with (go_at_call 130; refine (gust_calls _ _).mono ?_; rintro e w' ⟨rfl, hb⟩; rw [HV.out])
        go_roundw
        case measure => simp [intOf]; omega
        case rel => exact ⟨x + 1, by go_num, ⟨by rw [HS.out, HA.out]; exact HV.out⟩, ⟨by omega⟩, ⟨HB.out.trans (hb.mono (by have := HB.out.size; omega))⟩⟩
      | true =>
        have HV := Aside0.mk hb1
        clear hb1
        go_wp2_with (go_at_call 130; refine (gust_calls _ _).mono ?_; rintro e w' ⟨rfl, hb⟩; rw [HV.out])
        go_ret
        exact ⟨x, rfl, by rw [any_hit l 0 badG x c1 HV.out]; simp, HB.out.trans (hb.mono (by have := HB.out.size; omega))⟩
    · have HE := Aside0.mk (List.take_of_length_le (l := l) (i := x) (by omega))
      go_wp2
      go_ret
      exact ⟨-1, rfl, by rw [← HE.out, HA.out]; rfl, HB.out⟩
theorem has_gusts (A : Option Addr) (c : Nat) (l : List Int) (w : World) (hr : Kd.C (Kd.int .i64) w A l.length l) :
    Calls Try.prog 97 #[.slice A l.length c, .func (.func 130) #[] #[]] w (Yes (l.any badG) w) := by
  have HR := Aside0.mk hr
  clear hr
  go_enter Try.func97, Try.ntmps97
  go_wp2_with (go_at_call 154; refine (index_gusts A c l _ HR.out).mono ?_; rintro e w' ⟨i, rfl, hi, hb⟩; have HI := Aside0.mk hi; clear hi)
  go_ret
  exact ⟨by rw [← HI.out]; rfl, hb⟩
end Go.Proofs.Yteodlmgmmpkpoaa.PS
end
section
namespace Go.Proofs.Yteodlmgmmpkpoaa.PS
open Go.RowKit Go.Proofs.YteodlmgmmpkpoaaW.PrintWords Go.Proofs.YteodlmgmmpkpoaaW.PrintLast Go.Proofs.YteodlmgmmpkpoaaW.PrintMore
set_option linter.unusedVariables false
set_option linter.unusedSimpArgs false
theorem chk_calls (n m D : Int) (w : World) : Calls Try.prog 68 #[.agg #[.int .i64 n, .int .i64 m, .int .i64 D]] w fun e w' => e = .returned (.int .i64 (if slB n m D then 0 else 70)) ∧ Below w.heap.size w w' := sling_Check.calls n m D _ w (schk7 n m D)
theorem chk_no (n m D : Int) (h : slB n m D = false) (w : World) : Calls Try.prog 68 #[.agg #[.int .i64 n, .int .i64 m, .int .i64 D]] w fun e w' => e = .returned (.int .i64 70) ∧ Below w.heap.size w w' := by
  have := chk_calls n m D w
  rw [h] at this
  exact this
theorem chk_yes (n m D : Int) (h : slB n m D = true) (w : World) : Calls Try.prog 68 #[.agg #[.int .i64 n, .int .i64 m, .int .i64 D]] w fun e w' => e = .returned (.int .i64 0) ∧ Below w.heap.size w w' := by
  have := chk_calls n m D w
  rw [h] at this
  exact this
theorem started_calls (a v : Int) (w : World) : Calls Try.prog 129 #[.agg #[.int .i64 a, .int .i64 v]] w (Yes (stB a v) w) := sling_started.calls a v _ w (st7 a v)
set_option maxRecDepth 100000 in
set_option maxHeartbeats 4000000 in
theorem sling_Swing.calls (n : Int) (m : Int) (D : Int) (a : Int) (v : Int) (A2 : Option Addr) (c2 : Nat) (l2 : List Int) (r1 : List (S28)) (r2 : Int) (w : World) (hr2 : Kd.C (Kd.int .i64) w A2 l2.length l2) (hc2 : l2.length ≤ c2) (h : sling_Swing.f n m D a v l2 = some (r1, r2)) :
    Calls Try.prog 70 #[.agg #[.int .i64 n, .int .i64 m, .int .i64 D], .agg #[.int .i64 a, .int .i64 v], .slice A2 l2.length c2] w fun e w' => ∃ v0_ : Value, e = .returned (.tuple #[v0_, .int .i64 r2]) ∧ Kd.R k28 28 w' w.heap.size (fun _ => True) v0_ r1 ∧ Below w.heap.size w w' := by
  have HR2 := Aside0.mk hr2
  clear hr2
  have h' := Option.some.inj h
  clear h
  cases hs : slB n m D with
  | false =>
    rw [hs, if_neg (by simp)] at h'
    cases h'
    have HS := Aside0.mk hs
    clear hs
    go_enter Try.func70, Try.ntmps70
    go_wp2_with (go_at_call 68; refine (chk_no n m D HS.out _).mono ?_; rintro e w1 ⟨rfl, hb1⟩)
    refine bodyPost_ret (results_list (rs := [.tmp 6, .tmp 7]) rfl (by simp) (.tmp (.tmp .nil))) rfl ?_
    exact ⟨_, rfl, Kd.R_nil _ _ _ _ _, (below_alloc (below_alloc (Below.refl _ _) _) _).trans (hb1.mono (by simp; omega))⟩
  | true =>
    rw [hs, if_pos rfl] at h'
    have HS := Aside0.mk hs
    clear hs
    by_cases h16 : 16 < l2.length
    · rw [if_pos h16] at h'
      cases h'
      have hd : decide ((l2.length : Int) > 16) = true := decide_eq_true (by omega)
      go_enter Try.func70, Try.ntmps70
      go_wp2_with (go_at_call 68; refine (chk_yes n m D HS.out _).mono ?_; rintro e w1 ⟨rfl, hb1⟩)
      refine bodyPost_ret (results_list (rs := [.tmp 6, .tmp 7]) rfl (by simp) (.tmp (.tmp .nil))) rfl ?_
      exact ⟨_, rfl, Kd.R_nil _ _ _ _ _, (below_alloc (below_alloc (Below.refl _ _) _) _).trans (hb1.mono (by simp; omega))⟩
    · rw [if_neg h16] at h'
      have hd : decide ((l2.length : Int) > 16) = false := decide_eq_false (by omega)
      cases ht : stB a v with
      | false =>
        rw [ht, Bool.false_and, if_neg (by simp)] at h'
        cases h'
        have HT := Aside0.mk ht
        clear ht
        have HB := Aside0.mk (Below.refl w.heap.size w)
        go_enter Try.func70, Try.ntmps70
        go_wp2_with (first | ((with_reducible refine gate_dst (N := 3) rfl ?_); refine box_event ?hg (N := 3) ?hd (cs := #[.int .i64 n, .int .i64 m, .int .i64 D]) (t := 105) ?hr ?_; (case hd => rfl); (case hg => rfl); (case hr => first | (go_simp; done) | (go_simp; rfl)); intro gs hg w1 hbox hb; have n0_ := Aside0.mk (below_step HB.out hb); have x0_ := Aside0.mk (hbox); have x1_ := Aside0.mk ((by rw [hg]; exact HB.out.size : w.heap.size ≤ gs)); clear HB; have HB := n0_; clear n0_; have BKgs := x0_; clear x0_; have GEgs := x1_; clear x1_; clear hb hbox hg; skip) | ((with_reducible refine gate_dst (N := 4) rfl ?_); refine box_event ?hg (N := 4) ?hd (cs := #[.int .i64 a, .int .i64 v]) (t := 28) ?hr ?_; (case hd => rfl); (case hg => rfl); (case hr => first | (go_simp; done) | (go_simp; rfl)); intro ga hg w2 hbox hb; have n0_ := Aside0.mk (below_step HB.out hb); have m0_ := Aside0.mk (blk_below BKgs.out hb); have x0_ := Aside0.mk (hbox); have x1_ := Aside0.mk ((by rw [hg]; exact HB.out.size : w.heap.size ≤ ga)); clear HB; have HB := n0_; clear n0_; clear BKgs; have BKgs := m0_; clear m0_; have BKga := x0_; clear x0_; have GEga := x1_; clear x1_; clear hb hbox hg; have zgs0 : w2.cell? ⟨gs, 0, none⟩ = some (.int .i64 n) := (blk_cell BKgs.out 0).trans rfl; have zgs1 : w2.cell? ⟨gs, 1, none⟩ = some (.int .i64 m) := (blk_cell BKgs.out 1).trans rfl; have zgs2 : w2.cell? ⟨gs, 2, none⟩ = some (.int .i64 D) := (blk_cell BKgs.out 2).trans rfl; skip) | (go_at_call 68; refine (chk_yes n m D HS.out _).mono ?_; rintro e w3 ⟨rfl, hb⟩; have n0_ := Aside0.mk (below_step HB.out hb); have m0_ := Aside0.mk (blk_below BKgs.out hb); have m1_ := Aside0.mk (blk_below BKga.out hb); clear HB; have HB := n0_; clear n0_; clear BKgs; have BKgs := m0_; clear m0_; clear BKga; have BKga := m1_; clear m1_; clear hb; clear zgs0; clear zgs1; clear zgs2; have zga0 : w3.cell? ⟨ga, 0, none⟩ = some (.int .i64 a) := (blk_cell BKga.out 0).trans rfl; have zga1 : w3.cell? ⟨ga, 1, none⟩ = some (.int .i64 v) := (blk_cell BKga.out 1).trans rfl; skip) | (go_at_call 129; refine (started_calls a v _).mono ?_; rw [HT.out]; rintro e w4 ⟨rfl, hb⟩; have n0_ := Aside0.mk (below_step HB.out hb); have m0_ := Aside0.mk (blk_below BKgs.out hb); have m1_ := Aside0.mk (blk_below BKga.out hb); clear HB; have HB := n0_; clear n0_; clear BKgs; have BKgs := m0_; clear m0_; clear BKga; have BKga := m1_; clear m1_; clear hb; clear zga0; clear zga1; skip))
        refine bodyPost_ret (results_list (rs := [.tmp 6, .tmp 7]) rfl (by simp) (.tmp (.tmp .nil))) rfl ?_
        exact ⟨_, rfl, Kd.R_nil _ _ _ _ _, HB.out⟩
      | true =>
        have HT := Aside0.mk ht
        rw [ht, Bool.true_and] at h'
        clear ht
        have hany : l2.any badG = !l2.all guB := any_not l2 guB
        cases hg : l2.all guB with
        | false =>
          rw [hg, if_neg (by simp)] at h'
          rw [hg] at hany
          cases h'
          have HGu := Aside0.mk (show l2.any badG = true from hany)
          clear hg hany
          have HB := Aside0.mk (Below.refl w.heap.size w)
          go_enter Try.func70, Try.ntmps70
          go_wp2_with (first | ((with_reducible refine gate_dst (N := 3) rfl ?_); refine box_event ?hg (N := 3) ?hd (cs := #[.int .i64 n, .int .i64 m, .int .i64 D]) (t := 105) ?hr ?_; (case hd => rfl); (case hg => rfl); (case hr => first | (go_simp; done) | (go_simp; rfl)); intro gs hg w1 hbox hb; have n0_ := Aside0.mk (below_step HB.out hb); have x0_ := Aside0.mk (hbox); have x1_ := Aside0.mk ((by rw [hg]; exact HB.out.size : w.heap.size ≤ gs)); clear HB; have HB := n0_; clear n0_; have BKgs := x0_; clear x0_; have GEgs := x1_; clear x1_; clear hb hbox hg; skip) | ((with_reducible refine gate_dst (N := 4) rfl ?_); refine box_event ?hg (N := 4) ?hd (cs := #[.int .i64 a, .int .i64 v]) (t := 28) ?hr ?_; (case hd => rfl); (case hg => rfl); (case hr => first | (go_simp; done) | (go_simp; rfl)); intro ga hg w2 hbox hb; have n0_ := Aside0.mk (below_step HB.out hb); have m0_ := Aside0.mk (blk_below BKgs.out hb); have x0_ := Aside0.mk (hbox); have x1_ := Aside0.mk ((by rw [hg]; exact HB.out.size : w.heap.size ≤ ga)); clear HB; have HB := n0_; clear n0_; clear BKgs; have BKgs := m0_; clear m0_; have BKga := x0_; clear x0_; have GEga := x1_; clear x1_; clear hb hbox hg; have zgs0 : w2.cell? ⟨gs, 0, none⟩ = some (.int .i64 n) := (blk_cell BKgs.out 0).trans rfl; have zgs1 : w2.cell? ⟨gs, 1, none⟩ = some (.int .i64 m) := (blk_cell BKgs.out 1).trans rfl; have zgs2 : w2.cell? ⟨gs, 2, none⟩ = some (.int .i64 D) := (blk_cell BKgs.out 2).trans rfl; skip) | (go_at_call 68; refine (chk_yes n m D HS.out _).mono ?_; rintro e w3 ⟨rfl, hb⟩; have n0_ := Aside0.mk (below_step HB.out hb); have m0_ := Aside0.mk (blk_below BKgs.out hb); have m1_ := Aside0.mk (blk_below BKga.out hb); clear HB; have HB := n0_; clear n0_; clear BKgs; have BKgs := m0_; clear m0_; clear BKga; have BKga := m1_; clear m1_; clear hb; clear zgs0; clear zgs1; clear zgs2; have zga0 : w3.cell? ⟨ga, 0, none⟩ = some (.int .i64 a) := (blk_cell BKga.out 0).trans rfl; have zga1 : w3.cell? ⟨ga, 1, none⟩ = some (.int .i64 v) := (blk_cell BKga.out 1).trans rfl; skip) | (go_at_call 129; refine (started_calls a v _).mono ?_; rw [HT.out]; rintro e w4 ⟨rfl, hb⟩; have n0_ := Aside0.mk (below_step HB.out hb); have m0_ := Aside0.mk (blk_below BKgs.out hb); have m1_ := Aside0.mk (blk_below BKga.out hb); clear HB; have HB := n0_; clear n0_; clear BKgs; have BKgs := m0_; clear m0_; clear BKga; have BKga := m1_; clear m1_; clear hb; clear zga0; clear zga1; skip) | (go_at_call 97; refine (has_gusts A2 c2 l2 _ (Kd.C_below HR2.out HB.out)).mono ?_; rw [HGu.out]; rintro e w5 ⟨rfl, hb⟩; have n0_ := Aside0.mk (below_step HB.out hb); have m0_ := Aside0.mk (blk_below BKgs.out hb); have m1_ := Aside0.mk (blk_below BKga.out hb); clear HB; have HB := n0_; clear n0_; clear BKgs; have BKgs := m0_; clear m0_; clear BKga; have BKga := m1_; clear m1_; clear hb; skip))
          refine bodyPost_ret (results_list (rs := [.tmp 6, .tmp 7]) rfl (by simp) (.tmp (.tmp .nil))) rfl ?_
          exact ⟨_, rfl, Kd.R_nil _ _ _ _ _, HB.out⟩
        | true =>
          rw [hg, if_pos rfl] at h'
          rw [hg] at hany
          cases h'
          have HGu := Aside0.mk (show l2.any badG = false from hany)
          clear hg hany
          have HB := Aside0.mk (Below.refl w.heap.size w)
          go_enter Try.func70, Try.ntmps70
          go_wp2_with (first | ((with_reducible refine gate_dst (N := 3) rfl ?_); refine box_event ?hg (N := 3) ?hd (cs := #[.int .i64 n, .int .i64 m, .int .i64 D]) (t := 105) ?hr ?_; (case hd => rfl); (case hg => rfl); (case hr => first | (go_simp; done) | (go_simp; rfl)); intro gs hg w1 hbox hb; have n0_ := Aside0.mk (below_step HB.out hb); have x0_ := Aside0.mk (hbox); have x1_ := Aside0.mk ((by rw [hg]; exact HB.out.size : w.heap.size ≤ gs)); clear HB; have HB := n0_; clear n0_; have BKgs := x0_; clear x0_; have GEgs := x1_; clear x1_; clear hb hbox hg; skip) | ((with_reducible refine gate_dst (N := 4) rfl ?_); refine box_event ?hg (N := 4) ?hd (cs := #[.int .i64 a, .int .i64 v]) (t := 28) ?hr ?_; (case hd => rfl); (case hg => rfl); (case hr => first | (go_simp; done) | (go_simp; rfl)); intro ga hg w2 hbox hb; have n0_ := Aside0.mk (below_step HB.out hb); have m0_ := Aside0.mk (blk_below BKgs.out hb); have x0_ := Aside0.mk (hbox); have x1_ := Aside0.mk ((by rw [hg]; exact HB.out.size : w.heap.size ≤ ga)); clear HB; have HB := n0_; clear n0_; clear BKgs; have BKgs := m0_; clear m0_; have BKga := x0_; clear x0_; have GEga := x1_; clear x1_; clear hb hbox hg; have zgs0 : w2.cell? ⟨gs, 0, none⟩ = some (.int .i64 n) := (blk_cell BKgs.out 0).trans rfl; have zgs1 : w2.cell? ⟨gs, 1, none⟩ = some (.int .i64 m) := (blk_cell BKgs.out 1).trans rfl; have zgs2 : w2.cell? ⟨gs, 2, none⟩ = some (.int .i64 D) := (blk_cell BKgs.out 2).trans rfl; skip) | (go_at_call 68; refine (chk_yes n m D HS.out _).mono ?_; rintro e w3 ⟨rfl, hb⟩; have n0_ := Aside0.mk (below_step HB.out hb); have m0_ := Aside0.mk (blk_below BKgs.out hb); have m1_ := Aside0.mk (blk_below BKga.out hb); clear HB; have HB := n0_; clear n0_; clear BKgs; have BKgs := m0_; clear m0_; clear BKga; have BKga := m1_; clear m1_; clear hb; clear zgs0; clear zgs1; clear zgs2; have zga0 : w3.cell? ⟨ga, 0, none⟩ = some (.int .i64 a) := (blk_cell BKga.out 0).trans rfl; have zga1 : w3.cell? ⟨ga, 1, none⟩ = some (.int .i64 v) := (blk_cell BKga.out 1).trans rfl; skip) | (go_at_call 129; refine (started_calls a v _).mono ?_; rw [HT.out]; rintro e w4 ⟨rfl, hb⟩; have n0_ := Aside0.mk (below_step HB.out hb); have m0_ := Aside0.mk (blk_below BKgs.out hb); have m1_ := Aside0.mk (blk_below BKga.out hb); clear HB; have HB := n0_; clear n0_; clear BKgs; have BKgs := m0_; clear m0_; clear BKga; have BKga := m1_; clear m1_; clear hb; clear zga0; clear zga1; skip) | (go_at_call 97; refine (has_gusts A2 c2 l2 _ (Kd.C_below HR2.out HB.out)).mono ?_; rw [HGu.out]; rintro e w5 ⟨rfl, hb⟩; have n0_ := Aside0.mk (below_step HB.out hb); have m0_ := Aside0.mk (blk_below BKgs.out hb); have m1_ := Aside0.mk (blk_below BKga.out hb); clear HB; have HB := n0_; clear n0_; clear BKgs; have BKgs := m0_; clear m0_; clear BKga; have BKga := m1_; clear m1_; clear hb; have zgs0 : w5.cell? ⟨gs, 0, none⟩ = some (.int .i64 n) := (blk_cell BKgs.out 0).trans rfl; have zgs1 : w5.cell? ⟨gs, 1, none⟩ = some (.int .i64 m) := (blk_cell BKgs.out 1).trans rfl; have zgs2 : w5.cell? ⟨gs, 2, none⟩ = some (.int .i64 D) := (blk_cell BKgs.out 2).trans rfl; have zga0 : w5.cell? ⟨ga, 0, none⟩ = some (.int .i64 a) := (blk_cell BKga.out 0).trans rfl; have zga1 : w5.cell? ⟨ga, 1, none⟩ = some (.int .i64 v) := (blk_cell BKga.out 1).trans rfl; skip) | ((with_reducible refine gate_dst (N := 33) rfl ?_); refine box_event ?hg (N := 33) ?hd (cs := #[.int .i64 n, .int .i64 m, .int .i64 D, .int .i64 a, .int .i64 v, .int .i64 1]) (t := 177) ?hr ?_; (case hd => rfl); (case hg => rfl); (case hr => first | (go_simp; done) | (go_simp; rfl)); intro gl hg w6 hbox hb; have n0_ := Aside0.mk (below_step HB.out hb); have m0_ := Aside0.mk (blk_below BKgs.out hb); have m1_ := Aside0.mk (blk_below BKga.out hb); have x0_ := Aside0.mk (hbox); have x1_ := Aside0.mk ((by rw [hg]; exact HB.out.size : w.heap.size ≤ gl)); clear HB; have HB := n0_; clear n0_; clear BKgs; have BKgs := m0_; clear m0_; clear BKga; have BKga := m1_; clear m1_; have BKgl := x0_; clear x0_; have GEgl := x1_; clear x1_; clear hb hbox hg; clear zgs0; clear zgs1; clear zgs2; clear zga0; clear zga1; skip))
          have hD := HS.out
          unfold slB at hD
          simp only [Bool.and_eq_true, decide_eq_true_eq] at hD
          have HD := Aside0.mk hD.1
          clear hD
          have HL0 : Aside0 (w6.heap[gl]? = some (.cells (ldC n m D (stG n m D ⟨a, v, 1⟩ (fun t => l2.getD t 0) 0)) 177 (0, 0))) := ⟨BKgl.out⟩
          clear BKgs BKga BKgl
          go_loopw [6, 36] (fun v6 v36 wr => ∃ x : Nat, v36 = .int .i64 x ∧ Aside0 (x ≤ l2.length) ∧ Aside0 (Kd.R k28 28 wr w.heap.size (fun k => k ≠ gl) v6 (swingT n m D ⟨a, v, 1⟩ (fun t => l2.getD t 0) x)) ∧ Aside0 (wr.heap[gl]? = some (.cells (ldC n m D (stG n m D ⟨a, v, 1⟩ (fun t => l2.getD t 0) x)) 177 (0, 0))) ∧ Aside0 (Below w.heap.size w wr)) (fun _ v36 _ => l2.length - (intOf v36).toNat)
          case atStart => exact ⟨0, rfl, ⟨Nat.zero_le _⟩, ⟨Kd.R_nil _ _ _ _ _⟩, HL0, HB⟩
          case round =>
            obtain ⟨x, rfl, HX, HO, HLd, HBr⟩ := hrel
            clear HB HL0
            by_cases hx : x < l2.length
            · obtain ⟨ad, e0, hx0⟩ := Kd.at_int (Kd.C_below HR2.out HBr.out) (x : Int) (by omega) (by omega)
              rw [Int.toNat_natCast] at hx0
              rw [rd_getD] at hx0
              subst e0
              have hdx : decide ((x : Int) < (l2.length : Int)) = true := decide_eq_true (by omega)
              have wx : IntKind.i64.wrap ((x : Int) + 1) = (x : Int) + 1 := by rw [i64_w]; exact wr64 (by omega) (by omega)
              have HE := Aside0.mk (swing_succ n m D ⟨a, v, 1⟩ (fun t => l2.getD t 0) x)
              obtain ⟨s, hs⟩ : ∃ s, (stG n m D ⟨a, v, 1⟩ (fun t => l2.getD t 0) x) = s := ⟨_, rfl⟩
              have hld := HLd.out
              rw [hs] at hld
              have HLs := Aside0.mk hld
              have HSx := Aside0.mk hs
              obtain ⟨gx, hgx⟩ : ∃ gx, l2.getD x 0 = gx := ⟨_, rfl⟩
              rw [hgx] at hx0
              have HGx := Aside0.mk hgx
              clear hs hld hgx
              go_wp2_with (go_at_call 131; with_reducible refine (sling_tick.calls gl n m D s gx _ HLs.out).mono ?_; rintro e w7 ⟨rfl, hT⟩; have HT7 := Aside0.mk hT; clear hT)
              have hT1 := HT7.out.1
              rw [show tkL n m D s gx = (stG n m D ⟨a, v, 1⟩ (fun t => l2.getD t 0) (x + 1)) by rw [← HSx.out, ← HGx.out]; rfl] at hT1
              have HO7 := Aside0.mk (Kd.R_kept HO.out HT7.out.2.1 (fun k hk he => hk he))
              have HL7 : Aside0 (w7.heap[gl]? = some (.cells (ldC n m D (stG n m D ⟨a, v, 1⟩ (fun t => l2.getD t 0) (x + 1))) 177 (0, 0))) := ⟨hT1⟩
              have HB7 := Aside0.mk (HBr.out.trans (HT7.out.2.2.mono GEgl.out))
              have HDen : Aside0 (0 < (stG n m D ⟨a, v, 1⟩ (fun t => l2.getD t 0) (x + 1)).d) := ⟨by rw [st_den n m D ⟨a, v, 1⟩ rfl]; have := pw_range D HD.out.1 HD.out.2 (x + 1) (by omega); omega⟩
              clear HO HLd HBr HT7 hx0 hT1 HLs HSx HGx
              go_wp2_with (first | (go_at_call 132; with_reducible refine (sling_place.calls gl n m D _ HDen.out _ HL7.out).mono ?_; rintro e w8 ⟨rfl, hb⟩; have HO8 := Aside0.mk (Kd.R_below HO7.out hb); have HL8 := Aside0.mk (blk_below HL7.out hb); have HB8 := Aside0.mk (below_step HB7.out hb); clear HO7 HL7 HB7 hb; obtain ⟨p, hp⟩ : ∃ p, lowT (stG n m D ⟨a, v, 1⟩ (fun t => l2.getD t 0) (x + 1)).a (stG n m D ⟨a, v, 1⟩ (fun t => l2.getD t 0) (x + 1)).d = p := ⟨_, rfl⟩; rw [hp]; have HP := Aside0.mk hp; clear hp) | ((with_reducible refine gate_builtin (b := .append) (xs := #[.tmp 43, .tmp 46]) rfl ?_); at_builtin; refine Kd.R_append k28 (w0 := w) w.heap.size rfl (.tmp 43) (.tmp 46) 109 28 (.agg #[.int .i64 0, .int .i64 0]) 16 rfl Try.underlying109 info28 rfl (by decide) (by omega) u6 (swingT n m D ⟨a, v, 1⟩ (fun t => l2.getD t 0) x) (p : S28) [.int .i64 p.f0, .int .i64 p.f1] (fun k_ => k_ ≠ gl) (fun _ => False) rfl rfl ?aP (fun _ hk => hk.elim) ?aF ?aO ?aB ?aS ?aL ?_; (case aP => exact k28_mkM _ _ _ (p : S28)); (case aB => exact HB8.out); (case aF => exact fun k_ hk => Kd.freshB HL8.out k_ hk); (case aO => exact HO8.out); (case aS => exact HB8.out.size); (case aL => rw [swing_len]; omega); intro v6n w9 ho hb hg hat; rw [← HP.out] at ho; replace ho : Kd.R k28 28 w9 w.heap.size (fun k => k ≠ gl) v6n ((swingT n m D ⟨a, v, 1⟩ (fun t => l2.getD t 0) x) ++ [lowT (stG n m D ⟨a, v, 1⟩ (fun t => l2.getD t 0) (x + 1)).a (stG n m D ⟨a, v, 1⟩ (fun t => l2.getD t 0) (x + 1)).d]) := ho; rw [← HE.out] at ho; have HO9 := Aside0.mk ho; have HL9 := Aside0.mk (blk_grown HL8.out hg (Kd.R_away HO8.out (fun _ hk => hk))); have HB9 := Aside0.mk hb; clear HO8 HL8 HB8 ho hb hg hat; skip))
              go_roundw
              case measure => simp [intOf]; omega
              case rel => exact ⟨x + 1, by go_num, ⟨by omega⟩, HO9, HL9, HB9⟩
            · obtain rfl : x = l2.length := by have := HX.out; omega
              have hdx : decide ((l2.length : Int) < (l2.length : Int)) = false := decide_eq_false (by omega)
              go_wp2
              refine bodyPost_ret (results_list (rs := [.tmp 6, .tmp 7]) rfl (by simp) (.tmp (.tmp .nil))) rfl ?_
              exact ⟨_, rfl, Kd.R_mono HO.out (fun _ _ => trivial), HBr.out⟩
end Go.Proofs.Yteodlmgmmpkpoaa.PS
end
section
namespace Go.Proofs.Yteodlmgmmpkpoaa.PS
open Go.RowKit Go.Proofs.YteodlmgmmpkpoaaW.PrintWords Go.Proofs.YteodlmgmmpkpoaaW.PrintLast Go.Proofs.YteodlmgmmpkpoaaW.PrintMore
set_option linter.unusedVariables false
set_option linter.unusedSimpArgs false
theorem C_new27 (W : World) (lo hi : Int) : Kd.C k27 (W.alloc (.cells #[.int .i64 lo, .int .i64 hi] 27)) (some ⟨W.heap.size, 0, none⟩) 1 [⟨lo, hi⟩] :=
  ⟨rfl, by omega, fun _ => ⟨_, rfl, fun j p hj => by
    obtain rfl : j = 0 := by
      have := (List.getElem?_eq_some_iff.1 hj).1
      simpa using this
    obtain rfl : (⟨lo, hi⟩ : S27) = p := by simpa using hj
    exact ⟨[.int .i64 lo, .int .i64 hi], rfl, k27_mk _ ⟨lo, hi⟩, fun i u hu => by
      have h := (blk_cell (blk_new W (.cells #[.int .i64 lo, .int .i64 hi] 27)) i).trans (show (#[Value.int .i64 lo, .int .i64 hi] : Array Value)[i]? = some u by simpa using hu)
      have e : (Addr.mk W.heap.size 0 none).add (0 * k27.sz + i) = ⟨W.heap.size, i, none⟩ := by unfold Addr.add; simp; omega
      rw [e]
      exact h⟩⟩⟩
theorem within_q (x a b : Int) (r : Bool) (h : sling_within.f x a b = some r) (w : World) (n : Nat) : Calls Try.prog 115 #[.int .i64 x, .int .i64 a, .int .i64 b] (w.drewN n) fun e w'' => e = .returned (.bool r) ∧ ∃ m, w'' = w.drewN m :=
  Calls.quiet_of ((sling_within.calls x a b r _ h).mono fun _ _ ⟨he, m, hm⟩ => ⟨he, m, hm⟩)
theorem within_c (x a b : Int) (r : Bool) (h : sling_within.f x a b = some r) (w : World) : Calls Try.prog 115 #[.int .i64 x, .int .i64 a, .int .i64 b] w fun e w' => e = .returned (.bool r) ∧ Below w.heap.size w w' :=
  (sling_within.calls x a b r _ h).mono fun _ _ ⟨he, m, hm⟩ => ⟨he, by rw [hm]; exact pw_below_drewN (Below.refl _ w) m⟩
theorem box1 (lo hi : Int) : boxB [⟨lo, hi⟩] = okS lo hi := by unfold boxB; simp
theorem calm_step (n m D : Int) (s : Ld) (lo hi : Int) (t : Nat) : calmT n m D s lo hi (t + 1) = if inL (stG n m D s (fun _ => 0) t) lo hi then calmT n m D s lo hi t else t + 1 := rfl
set_option maxRecDepth 100000 in
set_option maxHeartbeats 4000000 in
theorem sling_Calm.calls (n : Int) (m : Int) (D : Int) (a : Int) (v : Int) (N : Int) (lo : Int) (hi : Int) (r1 : Int) (r2 : Int) (w : World) (h : sling_Calm.f n m D a v N lo hi = some (r1, r2)) :
    Calls Try.prog 73 #[.agg #[.int .i64 n, .int .i64 m, .int .i64 D], .agg #[.int .i64 a, .int .i64 v], .int .i64 N, .agg #[.int .i64 lo, .int .i64 hi]] w fun e w' => e = .returned (.tuple #[.int .i64 r1, .int .i64 r2]) ∧ Below w.heap.size w w' := by
  have h' := Option.some.inj h
  clear h
  have ckb := check_total [⟨lo, hi⟩]
  rw [box1] at ckb
  cases hs : slB n m D with
  | false =>
    rw [hs, if_neg (by simp)] at h'
    cases h'
    have HS := Aside0.mk hs
    clear hs ckb
    have HB := Aside0.mk (Below.refl w.heap.size w)
    go_enter Try.func73, Try.ntmps73
    go_wp2_with (first | ((with_reducible refine gate_dst (N := 4) rfl ?_); refine box_event ?hg (N := 4) ?hd (cs := #[.int .i64 n, .int .i64 m, .int .i64 D]) (t := 105) ?hr ?_; (case hd => rfl); (case hg => rfl); (case hr => first | (go_simp; done) | (go_simp; rfl)); intro gs hg w1 hbox hb; have n0_ := Aside0.mk (below_step HB.out hb); have x0_ := Aside0.mk (hbox); have x1_ := Aside0.mk ((by rw [hg]; exact HB.out.size : w.heap.size ≤ gs)); clear HB; have HB := n0_; clear n0_; have BKgs := x0_; clear x0_; have GEgs := x1_; clear x1_; clear hb hbox hg; skip) | ((with_reducible refine gate_dst (N := 5) rfl ?_); refine box_event ?hg (N := 5) ?hd (cs := #[.int .i64 a, .int .i64 v]) (t := 28) ?hr ?_; (case hd => rfl); (case hg => rfl); (case hr => first | (go_simp; done) | (go_simp; rfl)); intro ga hg w2 hbox hb; have n0_ := Aside0.mk (below_step HB.out hb); have m0_ := Aside0.mk (blk_below BKgs.out hb); have x0_ := Aside0.mk (hbox); have x1_ := Aside0.mk ((by rw [hg]; exact HB.out.size : w.heap.size ≤ ga)); clear HB; have HB := n0_; clear n0_; clear BKgs; have BKgs := m0_; clear m0_; have BKga := x0_; clear x0_; have GEga := x1_; clear x1_; clear hb hbox hg; skip) | ((with_reducible refine gate_dst (N := 7) rfl ?_); refine box_event ?hg (N := 7) ?hd (cs := #[.int .i64 lo, .int .i64 hi]) (t := 27) ?hr ?_; (case hd => rfl); (case hg => rfl); (case hr => first | (go_simp; done) | (go_simp; rfl)); intro gb hg w3 hbox hb; have n0_ := Aside0.mk (below_step HB.out hb); have m0_ := Aside0.mk (blk_below BKgs.out hb); have m1_ := Aside0.mk (blk_below BKga.out hb); have x0_ := Aside0.mk (hbox); have x1_ := Aside0.mk ((by rw [hg]; exact HB.out.size : w.heap.size ≤ gb)); clear HB; have HB := n0_; clear n0_; clear BKgs; have BKgs := m0_; clear m0_; clear BKga; have BKga := m1_; clear m1_; have BKgb := x0_; clear x0_; have GEgb := x1_; clear x1_; clear hb hbox hg; have zgs0 : w3.cell? ⟨gs, 0, none⟩ = some (.int .i64 n) := (blk_cell BKgs.out 0).trans rfl; have zgs1 : w3.cell? ⟨gs, 1, none⟩ = some (.int .i64 m) := (blk_cell BKgs.out 1).trans rfl; have zgs2 : w3.cell? ⟨gs, 2, none⟩ = some (.int .i64 D) := (blk_cell BKgs.out 2).trans rfl; skip) | (go_at_call 68; refine (chk_no n m D HS.out _).mono ?_; rintro e w4 ⟨rfl, hb⟩; have n0_ := Aside0.mk (below_step HB.out hb); have m0_ := Aside0.mk (blk_below BKgs.out hb); have m1_ := Aside0.mk (blk_below BKga.out hb); have m2_ := Aside0.mk (blk_below BKgb.out hb); clear HB; have HB := n0_; clear n0_; clear BKgs; have BKgs := m0_; clear m0_; clear BKga; have BKga := m1_; clear m1_; clear BKgb; have BKgb := m2_; clear m2_; clear hb; clear zgs0; clear zgs1; clear zgs2; have zgb0 : w4.cell? ⟨gb, 0, none⟩ = some (.int .i64 lo) := (blk_cell BKgb.out 0).trans rfl; have zgb1 : w4.cell? ⟨gb, 1, none⟩ = some (.int .i64 hi) := (blk_cell BKgb.out 1).trans rfl; skip))
    refine bodyPost_ret (results_list (rs := [.tmp 8, .tmp 9]) rfl (by simp) (.tmp (.tmp .nil))) rfl ?_
    exact ⟨rfl, HB.out⟩
  | true =>
    rw [hs, if_pos rfl] at h'
    have HS := Aside0.mk hs
    clear hs
    cases ho : okS lo hi with
    | false =>
      rw [ho, if_neg (by simp)] at h' ckb
      cases h'
      have HBX := Aside0.mk ckb
      clear ho ckb
      have HB := Aside0.mk (Below.refl w.heap.size w)
      go_enter Try.func73, Try.ntmps73
      go_wp2_with (first | ((with_reducible refine gate_dst (N := 4) rfl ?_); refine box_event ?hg (N := 4) ?hd (cs := #[.int .i64 n, .int .i64 m, .int .i64 D]) (t := 105) ?hr ?_; (case hd => rfl); (case hg => rfl); (case hr => first | (go_simp; done) | (go_simp; rfl)); intro gs hg w1 hbox hb; have n0_ := Aside0.mk (below_step HB.out hb); have x0_ := Aside0.mk (hbox); have x1_ := Aside0.mk ((by rw [hg]; exact HB.out.size : w.heap.size ≤ gs)); clear HB; have HB := n0_; clear n0_; have BKgs := x0_; clear x0_; have GEgs := x1_; clear x1_; clear hb hbox hg; skip) | ((with_reducible refine gate_dst (N := 5) rfl ?_); refine box_event ?hg (N := 5) ?hd (cs := #[.int .i64 a, .int .i64 v]) (t := 28) ?hr ?_; (case hd => rfl); (case hg => rfl); (case hr => first | (go_simp; done) | (go_simp; rfl)); intro ga hg w2 hbox hb; have n0_ := Aside0.mk (below_step HB.out hb); have m0_ := Aside0.mk (blk_below BKgs.out hb); have x0_ := Aside0.mk (hbox); have x1_ := Aside0.mk ((by rw [hg]; exact HB.out.size : w.heap.size ≤ ga)); clear HB; have HB := n0_; clear n0_; clear BKgs; have BKgs := m0_; clear m0_; have BKga := x0_; clear x0_; have GEga := x1_; clear x1_; clear hb hbox hg; skip) | ((with_reducible refine gate_dst (N := 7) rfl ?_); refine box_event ?hg (N := 7) ?hd (cs := #[.int .i64 lo, .int .i64 hi]) (t := 27) ?hr ?_; (case hd => rfl); (case hg => rfl); (case hr => first | (go_simp; done) | (go_simp; rfl)); intro gb hg w3 hbox hb; have n0_ := Aside0.mk (below_step HB.out hb); have m0_ := Aside0.mk (blk_below BKgs.out hb); have m1_ := Aside0.mk (blk_below BKga.out hb); have x0_ := Aside0.mk (hbox); have x1_ := Aside0.mk ((by rw [hg]; exact HB.out.size : w.heap.size ≤ gb)); clear HB; have HB := n0_; clear n0_; clear BKgs; have BKgs := m0_; clear m0_; clear BKga; have BKga := m1_; clear m1_; have BKgb := x0_; clear x0_; have GEgb := x1_; clear x1_; clear hb hbox hg; have zgs0 : w3.cell? ⟨gs, 0, none⟩ = some (.int .i64 n) := (blk_cell BKgs.out 0).trans rfl; have zgs1 : w3.cell? ⟨gs, 1, none⟩ = some (.int .i64 m) := (blk_cell BKgs.out 1).trans rfl; have zgs2 : w3.cell? ⟨gs, 2, none⟩ = some (.int .i64 D) := (blk_cell BKgs.out 2).trans rfl; skip) | (go_at_call 68; refine (chk_yes n m D HS.out _).mono ?_; rintro e w4 ⟨rfl, hb⟩; have n0_ := Aside0.mk (below_step HB.out hb); have m0_ := Aside0.mk (blk_below BKgs.out hb); have m1_ := Aside0.mk (blk_below BKga.out hb); have m2_ := Aside0.mk (blk_below BKgb.out hb); clear HB; have HB := n0_; clear n0_; clear BKgs; have BKgs := m0_; clear m0_; clear BKga; have BKga := m1_; clear m1_; clear BKgb; have BKgb := m2_; clear m2_; clear hb; clear zgs0; clear zgs1; clear zgs2; have zgb0 : w4.cell? ⟨gb, 0, none⟩ = some (.int .i64 lo) := (blk_cell BKgb.out 0).trans rfl; have zgb1 : w4.cell? ⟨gb, 1, none⟩ = some (.int .i64 hi) := (blk_cell BKgb.out 1).trans rfl; skip) | (go_at_call 26; refine (spans_Check.calls _ 1 [⟨lo, hi⟩] _ _ (C_new27 _ lo hi) (Nat.le_refl _) HBX.out).mono ?_; rintro e w5 ⟨rfl, hb0⟩; have hb := (below_alloc (Below.refl _ w4) (.cells #[.int .i64 lo, .int .i64 hi] 27)).trans (hb0.mono (by simp)); clear hb0; have n0_ := Aside0.mk (below_step HB.out hb); have m0_ := Aside0.mk (blk_below BKgs.out hb); have m1_ := Aside0.mk (blk_below BKga.out hb); have m2_ := Aside0.mk (blk_below BKgb.out hb); clear HB; have HB := n0_; clear n0_; clear BKgs; have BKgs := m0_; clear m0_; clear BKga; have BKga := m1_; clear m1_; clear BKgb; have BKgb := m2_; clear m2_; clear hb; clear zgb0; clear zgb1; have zga0 : w5.cell? ⟨ga, 0, none⟩ = some (.int .i64 a) := (blk_cell BKga.out 0).trans rfl; have zga1 : w5.cell? ⟨ga, 1, none⟩ = some (.int .i64 v) := (blk_cell BKga.out 1).trans rfl; skip))
      refine bodyPost_ret (results_list (rs := [.tmp 8, .tmp 9]) rfl (by simp) (.tmp (.tmp .nil))) rfl ?_
      exact ⟨rfl, HB.out⟩
    | true =>
      rw [ho, if_pos rfl] at h' ckb
      have HBX := Aside0.mk ckb
      clear ho ckb
      cases ht : stB a v with
      | false =>
        rw [ht, Bool.false_and, if_neg (by simp)] at h'
        cases h'
        have HT := Aside0.mk ht
        clear ht
        have HB := Aside0.mk (Below.refl w.heap.size w)
        go_enter Try.func73, Try.ntmps73
        go_wp2_with (first | ((with_reducible refine gate_dst (N := 4) rfl ?_); refine box_event ?hg (N := 4) ?hd (cs := #[.int .i64 n, .int .i64 m, .int .i64 D]) (t := 105) ?hr ?_; (case hd => rfl); (case hg => rfl); (case hr => first | (go_simp; done) | (go_simp; rfl)); intro gs hg w1 hbox hb; have n0_ := Aside0.mk (below_step HB.out hb); have x0_ := Aside0.mk (hbox); have x1_ := Aside0.mk ((by rw [hg]; exact HB.out.size : w.heap.size ≤ gs)); clear HB; have HB := n0_; clear n0_; have BKgs := x0_; clear x0_; have GEgs := x1_; clear x1_; clear hb hbox hg; skip) | ((with_reducible refine gate_dst (N := 5) rfl ?_); refine box_event ?hg (N := 5) ?hd (cs := #[.int .i64 a, .int .i64 v]) (t := 28) ?hr ?_; (case hd => rfl); (case hg => rfl); (case hr => first | (go_simp; done) | (go_simp; rfl)); intro ga hg w2 hbox hb; have n0_ := Aside0.mk (below_step HB.out hb); have m0_ := Aside0.mk (blk_below BKgs.out hb); have x0_ := Aside0.mk (hbox); have x1_ := Aside0.mk ((by rw [hg]; exact HB.out.size : w.heap.size ≤ ga)); clear HB; have HB := n0_; clear n0_; clear BKgs; have BKgs := m0_; clear m0_; have BKga := x0_; clear x0_; have GEga := x1_; clear x1_; clear hb hbox hg; skip) | ((with_reducible refine gate_dst (N := 7) rfl ?_); refine box_event ?hg (N := 7) ?hd (cs := #[.int .i64 lo, .int .i64 hi]) (t := 27) ?hr ?_; (case hd => rfl); (case hg => rfl); (case hr => first | (go_simp; done) | (go_simp; rfl)); intro gb hg w3 hbox hb; have n0_ := Aside0.mk (below_step HB.out hb); have m0_ := Aside0.mk (blk_below BKgs.out hb); have m1_ := Aside0.mk (blk_below BKga.out hb); have x0_ := Aside0.mk (hbox); have x1_ := Aside0.mk ((by rw [hg]; exact HB.out.size : w.heap.size ≤ gb)); clear HB; have HB := n0_; clear n0_; clear BKgs; have BKgs := m0_; clear m0_; clear BKga; have BKga := m1_; clear m1_; have BKgb := x0_; clear x0_; have GEgb := x1_; clear x1_; clear hb hbox hg; have zgs0 : w3.cell? ⟨gs, 0, none⟩ = some (.int .i64 n) := (blk_cell BKgs.out 0).trans rfl; have zgs1 : w3.cell? ⟨gs, 1, none⟩ = some (.int .i64 m) := (blk_cell BKgs.out 1).trans rfl; have zgs2 : w3.cell? ⟨gs, 2, none⟩ = some (.int .i64 D) := (blk_cell BKgs.out 2).trans rfl; skip) | (go_at_call 68; refine (chk_yes n m D HS.out _).mono ?_; rintro e w4 ⟨rfl, hb⟩; have n0_ := Aside0.mk (below_step HB.out hb); have m0_ := Aside0.mk (blk_below BKgs.out hb); have m1_ := Aside0.mk (blk_below BKga.out hb); have m2_ := Aside0.mk (blk_below BKgb.out hb); clear HB; have HB := n0_; clear n0_; clear BKgs; have BKgs := m0_; clear m0_; clear BKga; have BKga := m1_; clear m1_; clear BKgb; have BKgb := m2_; clear m2_; clear hb; clear zgs0; clear zgs1; clear zgs2; have zgb0 : w4.cell? ⟨gb, 0, none⟩ = some (.int .i64 lo) := (blk_cell BKgb.out 0).trans rfl; have zgb1 : w4.cell? ⟨gb, 1, none⟩ = some (.int .i64 hi) := (blk_cell BKgb.out 1).trans rfl; skip) | (go_at_call 26; refine (spans_Check.calls _ 1 [⟨lo, hi⟩] _ _ (C_new27 _ lo hi) (Nat.le_refl _) HBX.out).mono ?_; rintro e w5 ⟨rfl, hb0⟩; have hb := (below_alloc (Below.refl _ w4) (.cells #[.int .i64 lo, .int .i64 hi] 27)).trans (hb0.mono (by simp)); clear hb0; have n0_ := Aside0.mk (below_step HB.out hb); have m0_ := Aside0.mk (blk_below BKgs.out hb); have m1_ := Aside0.mk (blk_below BKga.out hb); have m2_ := Aside0.mk (blk_below BKgb.out hb); clear HB; have HB := n0_; clear n0_; clear BKgs; have BKgs := m0_; clear m0_; clear BKga; have BKga := m1_; clear m1_; clear BKgb; have BKgb := m2_; clear m2_; clear hb; clear zgb0; clear zgb1; have zga0 : w5.cell? ⟨ga, 0, none⟩ = some (.int .i64 a) := (blk_cell BKga.out 0).trans rfl; have zga1 : w5.cell? ⟨ga, 1, none⟩ = some (.int .i64 v) := (blk_cell BKga.out 1).trans rfl; skip) | (go_at_call 129; refine (started_calls a v _).mono ?_; rw [HT.out]; rintro e w6 ⟨rfl, hb⟩; have n0_ := Aside0.mk (below_step HB.out hb); have m0_ := Aside0.mk (blk_below BKgs.out hb); have m1_ := Aside0.mk (blk_below BKga.out hb); have m2_ := Aside0.mk (blk_below BKgb.out hb); clear HB; have HB := n0_; clear n0_; clear BKgs; have BKgs := m0_; clear m0_; clear BKga; have BKga := m1_; clear m1_; clear BKgb; have BKgb := m2_; clear m2_; clear hb; clear zga0; clear zga1; skip))
        refine bodyPost_ret (results_list (rs := [.tmp 8, .tmp 9]) rfl (by simp) (.tmp (.tmp .nil))) rfl ?_
        exact ⟨rfl, HB.out⟩
      | true =>
        rw [ht, Bool.true_and] at h'
        have HT := Aside0.mk ht
        clear ht
        have hn7 : sling_within.f N 0 16 = some (nB N) := sw7 N 0 16
        cases hn : nB N with
        | false =>
          rw [hn, if_neg (by simp)] at h'
          rw [hn] at hn7
          cases h'
          have HN := Aside0.mk hn7
          clear hn hn7
          have HB := Aside0.mk (Below.refl w.heap.size w)
          go_enter Try.func73, Try.ntmps73
          go_wp2_with (first | ((with_reducible refine gate_dst (N := 4) rfl ?_); refine box_event ?hg (N := 4) ?hd (cs := #[.int .i64 n, .int .i64 m, .int .i64 D]) (t := 105) ?hr ?_; (case hd => rfl); (case hg => rfl); (case hr => first | (go_simp; done) | (go_simp; rfl)); intro gs hg w1 hbox hb; have n0_ := Aside0.mk (below_step HB.out hb); have x0_ := Aside0.mk (hbox); have x1_ := Aside0.mk ((by rw [hg]; exact HB.out.size : w.heap.size ≤ gs)); clear HB; have HB := n0_; clear n0_; have BKgs := x0_; clear x0_; have GEgs := x1_; clear x1_; clear hb hbox hg; skip) | ((with_reducible refine gate_dst (N := 5) rfl ?_); refine box_event ?hg (N := 5) ?hd (cs := #[.int .i64 a, .int .i64 v]) (t := 28) ?hr ?_; (case hd => rfl); (case hg => rfl); (case hr => first | (go_simp; done) | (go_simp; rfl)); intro ga hg w2 hbox hb; have n0_ := Aside0.mk (below_step HB.out hb); have m0_ := Aside0.mk (blk_below BKgs.out hb); have x0_ := Aside0.mk (hbox); have x1_ := Aside0.mk ((by rw [hg]; exact HB.out.size : w.heap.size ≤ ga)); clear HB; have HB := n0_; clear n0_; clear BKgs; have BKgs := m0_; clear m0_; have BKga := x0_; clear x0_; have GEga := x1_; clear x1_; clear hb hbox hg; skip) | ((with_reducible refine gate_dst (N := 7) rfl ?_); refine box_event ?hg (N := 7) ?hd (cs := #[.int .i64 lo, .int .i64 hi]) (t := 27) ?hr ?_; (case hd => rfl); (case hg => rfl); (case hr => first | (go_simp; done) | (go_simp; rfl)); intro gb hg w3 hbox hb; have n0_ := Aside0.mk (below_step HB.out hb); have m0_ := Aside0.mk (blk_below BKgs.out hb); have m1_ := Aside0.mk (blk_below BKga.out hb); have x0_ := Aside0.mk (hbox); have x1_ := Aside0.mk ((by rw [hg]; exact HB.out.size : w.heap.size ≤ gb)); clear HB; have HB := n0_; clear n0_; clear BKgs; have BKgs := m0_; clear m0_; clear BKga; have BKga := m1_; clear m1_; have BKgb := x0_; clear x0_; have GEgb := x1_; clear x1_; clear hb hbox hg; have zgs0 : w3.cell? ⟨gs, 0, none⟩ = some (.int .i64 n) := (blk_cell BKgs.out 0).trans rfl; have zgs1 : w3.cell? ⟨gs, 1, none⟩ = some (.int .i64 m) := (blk_cell BKgs.out 1).trans rfl; have zgs2 : w3.cell? ⟨gs, 2, none⟩ = some (.int .i64 D) := (blk_cell BKgs.out 2).trans rfl; skip) | (go_at_call 68; refine (chk_yes n m D HS.out _).mono ?_; rintro e w4 ⟨rfl, hb⟩; have n0_ := Aside0.mk (below_step HB.out hb); have m0_ := Aside0.mk (blk_below BKgs.out hb); have m1_ := Aside0.mk (blk_below BKga.out hb); have m2_ := Aside0.mk (blk_below BKgb.out hb); clear HB; have HB := n0_; clear n0_; clear BKgs; have BKgs := m0_; clear m0_; clear BKga; have BKga := m1_; clear m1_; clear BKgb; have BKgb := m2_; clear m2_; clear hb; clear zgs0; clear zgs1; clear zgs2; have zgb0 : w4.cell? ⟨gb, 0, none⟩ = some (.int .i64 lo) := (blk_cell BKgb.out 0).trans rfl; have zgb1 : w4.cell? ⟨gb, 1, none⟩ = some (.int .i64 hi) := (blk_cell BKgb.out 1).trans rfl; skip) | (go_at_call 26; refine (spans_Check.calls _ 1 [⟨lo, hi⟩] _ _ (C_new27 _ lo hi) (Nat.le_refl _) HBX.out).mono ?_; rintro e w5 ⟨rfl, hb0⟩; have hb := (below_alloc (Below.refl _ w4) (.cells #[.int .i64 lo, .int .i64 hi] 27)).trans (hb0.mono (by simp)); clear hb0; have n0_ := Aside0.mk (below_step HB.out hb); have m0_ := Aside0.mk (blk_below BKgs.out hb); have m1_ := Aside0.mk (blk_below BKga.out hb); have m2_ := Aside0.mk (blk_below BKgb.out hb); clear HB; have HB := n0_; clear n0_; clear BKgs; have BKgs := m0_; clear m0_; clear BKga; have BKga := m1_; clear m1_; clear BKgb; have BKgb := m2_; clear m2_; clear hb; clear zgb0; clear zgb1; have zga0 : w5.cell? ⟨ga, 0, none⟩ = some (.int .i64 a) := (blk_cell BKga.out 0).trans rfl; have zga1 : w5.cell? ⟨ga, 1, none⟩ = some (.int .i64 v) := (blk_cell BKga.out 1).trans rfl; skip) | (go_at_call 129; refine (started_calls a v _).mono ?_; rw [HT.out]; rintro e w6 ⟨rfl, hb⟩; have n0_ := Aside0.mk (below_step HB.out hb); have m0_ := Aside0.mk (blk_below BKgs.out hb); have m1_ := Aside0.mk (blk_below BKga.out hb); have m2_ := Aside0.mk (blk_below BKgb.out hb); clear HB; have HB := n0_; clear n0_; clear BKgs; have BKgs := m0_; clear m0_; clear BKga; have BKga := m1_; clear m1_; clear BKgb; have BKgb := m2_; clear m2_; clear hb; clear zga0; clear zga1; skip) | (go_at_call 115; refine (sling_within.calls _ 0 16 _ _ HN.out).mono ?_; rintro e w7 ⟨rfl, hdn⟩; have hb : Below w6.heap.size w6 w7 := (by obtain ⟨nd, rfl⟩ := hdn; exact pw_below_drewN (Below.refl _ w6) nd); clear hdn; have n0_ := Aside0.mk (below_step HB.out hb); have m0_ := Aside0.mk (blk_below BKgs.out hb); have m1_ := Aside0.mk (blk_below BKga.out hb); have m2_ := Aside0.mk (blk_below BKgb.out hb); clear HB; have HB := n0_; clear n0_; clear BKgs; have BKgs := m0_; clear m0_; clear BKga; have BKga := m1_; clear m1_; clear BKgb; have BKgb := m2_; clear m2_; clear hb; skip))
          refine bodyPost_ret (results_list (rs := [.tmp 8, .tmp 9]) rfl (by simp) (.tmp (.tmp .nil))) rfl ?_
          exact ⟨rfl, HB.out⟩
        | true =>
          rw [hn, if_pos rfl] at h'
          rw [hn] at hn7
          have HN := Aside0.mk hn7
          unfold nB at hn
          simp only [Bool.and_eq_true, decide_eq_true_eq] at hn
          obtain ⟨T, rfl⟩ : ∃ T : Nat, N = T := ⟨N.toNat, by omega⟩
          rw [Int.toNat_natCast] at h'
          have hT : T ≤ 16 := by omega
          have H' := Aside0.mk h'
          clear hn hn7 h'
          have HB := Aside0.mk (Below.refl w.heap.size w)
          go_enter Try.func73, Try.ntmps73
          go_wp2_with (first | ((with_reducible refine gate_dst (N := 4) rfl ?_); refine box_event ?hg (N := 4) ?hd (cs := #[.int .i64 n, .int .i64 m, .int .i64 D]) (t := 105) ?hr ?_; (case hd => rfl); (case hg => rfl); (case hr => first | (go_simp; done) | (go_simp; rfl)); intro gs hg w1 hbox hb; have n0_ := Aside0.mk (below_step HB.out hb); have x0_ := Aside0.mk (hbox); have x1_ := Aside0.mk ((by rw [hg]; exact HB.out.size : w.heap.size ≤ gs)); clear HB; have HB := n0_; clear n0_; have BKgs := x0_; clear x0_; have GEgs := x1_; clear x1_; clear hb hbox hg; skip) | ((with_reducible refine gate_dst (N := 5) rfl ?_); refine box_event ?hg (N := 5) ?hd (cs := #[.int .i64 a, .int .i64 v]) (t := 28) ?hr ?_; (case hd => rfl); (case hg => rfl); (case hr => first | (go_simp; done) | (go_simp; rfl)); intro ga hg w2 hbox hb; have n0_ := Aside0.mk (below_step HB.out hb); have m0_ := Aside0.mk (blk_below BKgs.out hb); have x0_ := Aside0.mk (hbox); have x1_ := Aside0.mk ((by rw [hg]; exact HB.out.size : w.heap.size ≤ ga)); clear HB; have HB := n0_; clear n0_; clear BKgs; have BKgs := m0_; clear m0_; have BKga := x0_; clear x0_; have GEga := x1_; clear x1_; clear hb hbox hg; skip) | ((with_reducible refine gate_dst (N := 7) rfl ?_); refine box_event ?hg (N := 7) ?hd (cs := #[.int .i64 lo, .int .i64 hi]) (t := 27) ?hr ?_; (case hd => rfl); (case hg => rfl); (case hr => first | (go_simp; done) | (go_simp; rfl)); intro gb hg w3 hbox hb; have n0_ := Aside0.mk (below_step HB.out hb); have m0_ := Aside0.mk (blk_below BKgs.out hb); have m1_ := Aside0.mk (blk_below BKga.out hb); have x0_ := Aside0.mk (hbox); have x1_ := Aside0.mk ((by rw [hg]; exact HB.out.size : w.heap.size ≤ gb)); clear HB; have HB := n0_; clear n0_; clear BKgs; have BKgs := m0_; clear m0_; clear BKga; have BKga := m1_; clear m1_; have BKgb := x0_; clear x0_; have GEgb := x1_; clear x1_; clear hb hbox hg; have zgs0 : w3.cell? ⟨gs, 0, none⟩ = some (.int .i64 n) := (blk_cell BKgs.out 0).trans rfl; have zgs1 : w3.cell? ⟨gs, 1, none⟩ = some (.int .i64 m) := (blk_cell BKgs.out 1).trans rfl; have zgs2 : w3.cell? ⟨gs, 2, none⟩ = some (.int .i64 D) := (blk_cell BKgs.out 2).trans rfl; skip) | (go_at_call 68; refine (chk_yes n m D HS.out _).mono ?_; rintro e w4 ⟨rfl, hb⟩; have n0_ := Aside0.mk (below_step HB.out hb); have m0_ := Aside0.mk (blk_below BKgs.out hb); have m1_ := Aside0.mk (blk_below BKga.out hb); have m2_ := Aside0.mk (blk_below BKgb.out hb); clear HB; have HB := n0_; clear n0_; clear BKgs; have BKgs := m0_; clear m0_; clear BKga; have BKga := m1_; clear m1_; clear BKgb; have BKgb := m2_; clear m2_; clear hb; clear zgs0; clear zgs1; clear zgs2; have zgb0 : w4.cell? ⟨gb, 0, none⟩ = some (.int .i64 lo) := (blk_cell BKgb.out 0).trans rfl; have zgb1 : w4.cell? ⟨gb, 1, none⟩ = some (.int .i64 hi) := (blk_cell BKgb.out 1).trans rfl; skip) | (go_at_call 26; refine (spans_Check.calls _ 1 [⟨lo, hi⟩] _ _ (C_new27 _ lo hi) (Nat.le_refl _) HBX.out).mono ?_; rintro e w5 ⟨rfl, hb0⟩; have hb := (below_alloc (Below.refl _ w4) (.cells #[.int .i64 lo, .int .i64 hi] 27)).trans (hb0.mono (by simp)); clear hb0; have n0_ := Aside0.mk (below_step HB.out hb); have m0_ := Aside0.mk (blk_below BKgs.out hb); have m1_ := Aside0.mk (blk_below BKga.out hb); have m2_ := Aside0.mk (blk_below BKgb.out hb); clear HB; have HB := n0_; clear n0_; clear BKgs; have BKgs := m0_; clear m0_; clear BKga; have BKga := m1_; clear m1_; clear BKgb; have BKgb := m2_; clear m2_; clear hb; clear zgb0; clear zgb1; have zga0 : w5.cell? ⟨ga, 0, none⟩ = some (.int .i64 a) := (blk_cell BKga.out 0).trans rfl; have zga1 : w5.cell? ⟨ga, 1, none⟩ = some (.int .i64 v) := (blk_cell BKga.out 1).trans rfl; skip) | (go_at_call 129; refine (started_calls a v _).mono ?_; rw [HT.out]; rintro e w6 ⟨rfl, hb⟩; have n0_ := Aside0.mk (below_step HB.out hb); have m0_ := Aside0.mk (blk_below BKgs.out hb); have m1_ := Aside0.mk (blk_below BKga.out hb); have m2_ := Aside0.mk (blk_below BKgb.out hb); clear HB; have HB := n0_; clear n0_; clear BKgs; have BKgs := m0_; clear m0_; clear BKga; have BKga := m1_; clear m1_; clear BKgb; have BKgb := m2_; clear m2_; clear hb; clear zga0; clear zga1; skip) | (go_at_call 115; refine (sling_within.calls _ 0 16 _ _ HN.out).mono ?_; rintro e w7 ⟨rfl, hdn⟩; have hb : Below w6.heap.size w6 w7 := (by obtain ⟨nd, rfl⟩ := hdn; exact pw_below_drewN (Below.refl _ w6) nd); clear hdn; have n0_ := Aside0.mk (below_step HB.out hb); have m0_ := Aside0.mk (blk_below BKgs.out hb); have m1_ := Aside0.mk (blk_below BKga.out hb); have m2_ := Aside0.mk (blk_below BKgb.out hb); clear HB; have HB := n0_; clear n0_; clear BKgs; have BKgs := m0_; clear m0_; clear BKga; have BKga := m1_; clear m1_; clear BKgb; have BKgb := m2_; clear m2_; clear hb; have zgs0 : w7.cell? ⟨gs, 0, none⟩ = some (.int .i64 n) := (blk_cell BKgs.out 0).trans rfl; have zgs1 : w7.cell? ⟨gs, 1, none⟩ = some (.int .i64 m) := (blk_cell BKgs.out 1).trans rfl; have zgs2 : w7.cell? ⟨gs, 2, none⟩ = some (.int .i64 D) := (blk_cell BKgs.out 2).trans rfl; have zga0 : w7.cell? ⟨ga, 0, none⟩ = some (.int .i64 a) := (blk_cell BKga.out 0).trans rfl; have zga1 : w7.cell? ⟨ga, 1, none⟩ = some (.int .i64 v) := (blk_cell BKga.out 1).trans rfl; skip) | ((with_reducible refine gate_dst (N := 40) rfl ?_); refine box_event ?hg (N := 40) ?hd (cs := #[.int .i64 n, .int .i64 m, .int .i64 D, .int .i64 a, .int .i64 v, .int .i64 1]) (t := 177) ?hr ?_; (case hd => rfl); (case hg => rfl); (case hr => first | (go_simp; done) | (go_simp; rfl)); intro gl hg w8 hbox hb; have n0_ := Aside0.mk (below_step HB.out hb); have m0_ := Aside0.mk (blk_below BKgs.out hb); have m1_ := Aside0.mk (blk_below BKga.out hb); have m2_ := Aside0.mk (blk_below BKgb.out hb); have x0_ := Aside0.mk (hbox); have x1_ := Aside0.mk ((by rw [hg]; exact HB.out.size : w.heap.size ≤ gl)); clear HB; have HB := n0_; clear n0_; clear BKgs; have BKgs := m0_; clear m0_; clear BKga; have BKga := m1_; clear m1_; clear BKgb; have BKgb := m2_; clear m2_; have BKgl := x0_; clear x0_; have GEgl := x1_; clear x1_; clear hb hbox hg; clear zgs0; clear zgs1; clear zgs2; clear zga0; clear zga1; skip))
          have HL0 : Aside0 (w8.heap[gl]? = some (.cells (ldC n m D (stG n m D ⟨a, v, 1⟩ (fun _ => 0) 0)) 177 (0, 0))) := ⟨BKgl.out⟩
          have hne : gb ≠ gl := blk_ne BKgb.out BKgl.out (by decide)
          have HNe := Aside0.mk hne
          clear hne
          have wT : IntKind.i64.wrap ((T : Int) + 1) = (T : Int) + 1 := by rw [i64_w]; exact wr64 (by omega) (by omega)
          clear BKgs BKga BKgl
          go_loopw [13, 43] (fun v13 v43 wr => ∃ t : Nat, v43 = .int .i64 t ∧ v13 = .int .i64 ((calmT n m D ⟨a, v, 1⟩ lo hi t) : Int) ∧ Aside0 (t ≤ T + 1) ∧ Aside0 (wr.heap[gl]? = some (.cells (ldC n m D (stG n m D ⟨a, v, 1⟩ (fun _ => 0) (t - 1))) 177 (0, 0))) ∧ Aside0 (wr.heap[gb]? = some (.cells #[.int .i64 lo, .int .i64 hi] 27 (0, 0))) ∧ Aside0 (Below w.heap.size w wr)) (fun _ v43 _ => T + 1 - (intOf v43).toNat)
          case atStart => exact ⟨0, rfl, rfl, ⟨Nat.zero_le _⟩, HL0, BKgb, HB⟩
          case round =>
            obtain ⟨t, rfl, rfl, HX, HLd, HBd, HBr⟩ := hrel
            clear HB HL0 BKgb
            by_cases hx : t < T + 1
            · have hdx : decide ((t : Int) < (T : Int) + 1) = true := decide_eq_true (by omega)
              have wx : IntKind.i64.wrap ((t : Int) + 1) = (t : Int) + 1 := by rw [i64_w]; exact wr64 (by omega) (by omega)
              have HC := Aside0.mk (calm_step n m D ⟨a, v, 1⟩ lo hi t)
              obtain ⟨c0, hc0⟩ : ∃ c0, (calmT n m D ⟨a, v, 1⟩ lo hi t) = c0 := ⟨_, rfl⟩
              rw [hc0]
              have HC0 := Aside0.mk hc0
              clear hc0
              obtain ⟨s, hs⟩ : ∃ s, (stG n m D ⟨a, v, 1⟩ (fun _ => 0) t) = s := ⟨_, rfl⟩
              have HSt := Aside0.mk hs
              clear hs
              by_cases h0 : t = 0
              · have hd0 : decide (0 < t) = false := decide_eq_false (by omega)
                have HLs : Aside0 (wr.heap[gl]? = some (.cells (ldC n m D s) 177 (0, 0))) := ⟨by have := HLd.out; rw [show t - 1 = t by omega, HSt.out] at this; exact this⟩
                have HBs := HBd
                have HWs := HBr
                clear h0
                go_wp2
                have q3 : wr.cell? ⟨gl, 3, none⟩ = some (.int .i64 s.a) := (blk_cell HLs.out 3).trans rfl
                have q5 : wr.cell? ⟨gl, 5, none⟩ = some (.int .i64 s.d) := (blk_cell HLs.out 5).trans rfl
                have b0 : wr.cell? ⟨gb, 0, none⟩ = some (.int .i64 lo) := (blk_cell HBs.out 0).trans rfl
                have b1 : wr.cell? ⟨gb, 1, none⟩ = some (.int .i64 hi) := (blk_cell HBs.out 1).trans rfl
                have hin7 : sling_within.f s.a (IntKind.i64.wrap (lo * s.d)) (IntKind.i64.wrap (hi * s.d)) = some (inL s lo hi) := by rw [i64_w, i64_w]; exact sw7 _ _ _
                have hcs := HC.out
                rw [HSt.out, HC0.out] at hcs
                cases hin : inL s lo hi with
                | true =>
                  rw [hin] at hin7 hcs
                  have hin8 := hin7
                  rw [i64_w, i64_w] at hin8
                  have HIn := Aside0.mk hin7
                  have HIm := Aside0.mk hin8
                  clear hin8
                  have HCs := Aside0.mk hcs
                  clear hin hin7 hcs
                  go_quiet ((go_at_call 115; first | (with_reducible exact within_q _ _ _ _ HIn.out _ _) | (with_reducible exact within_q _ _ _ _ HIm.out _ _)))
                  have HLq : Aside0 ((wr.drewN nq).heap[gl]? = some (.cells (ldC n m D s) 177 (0, 0))) := ⟨blk_drewN HLs.out nq⟩
                  have HBq : Aside0 ((wr.drewN nq).heap[gb]? = some (.cells #[.int .i64 lo, .int .i64 hi] 27 (0, 0))) := ⟨blk_drewN HBs.out nq⟩
                  have HWq : Aside0 (Below w.heap.size w (wr.drewN nq)) := ⟨pw_below_drewN HWs.out nq⟩
                  obtain ⟨wq, hwq⟩ : ∃ wq, wr.drewN nq = wq := ⟨_, rfl⟩
                  rw [hwq] at HLq HBq HWq ⊢
                  clear hwq q3 q5 b0 b1 HLs HBs HWs
                  go_wp2
                  go_roundw
                  case measure => simp [intOf]; omega
                  case rel => exact ⟨t + 1, by go_num, by rw [HCs.out]; rfl, ⟨by omega⟩, ⟨by rw [Nat.add_sub_cancel, HSt.out]; exact HLq.out⟩, HBq, HWq⟩
                | false =>
                  rw [hin] at hin7 hcs
                  have hin8 := hin7
                  rw [i64_w, i64_w] at hin8
                  have HIn := Aside0.mk hin7
                  have HIm := Aside0.mk hin8
                  clear hin8
                  have HCs := Aside0.mk hcs
                  clear hin hin7 hcs
                  go_quiet ((go_at_call 115; first | (with_reducible exact within_q _ _ _ _ HIn.out _ _) | (with_reducible exact within_q _ _ _ _ HIm.out _ _)))
                  have HLq : Aside0 ((wr.drewN nq).heap[gl]? = some (.cells (ldC n m D s) 177 (0, 0))) := ⟨blk_drewN HLs.out nq⟩
                  have HBq : Aside0 ((wr.drewN nq).heap[gb]? = some (.cells #[.int .i64 lo, .int .i64 hi] 27 (0, 0))) := ⟨blk_drewN HBs.out nq⟩
                  have HWq : Aside0 (Below w.heap.size w (wr.drewN nq)) := ⟨pw_below_drewN HWs.out nq⟩
                  obtain ⟨wq, hwq⟩ : ∃ wq, wr.drewN nq = wq := ⟨_, rfl⟩
                  rw [hwq] at HLq HBq HWq ⊢
                  clear hwq q3 q5 b0 b1 HLs HBs HWs
                  go_wp2
                  go_roundw
                  case measure => simp [intOf]; omega
                  case rel => exact ⟨t + 1, by go_num, by rw [HCs.out]; simp, ⟨by omega⟩, ⟨by rw [Nat.add_sub_cancel, HSt.out]; exact HLq.out⟩, HBq, HWq⟩
              · have hd0 : decide (0 < t) = true := decide_eq_true (by omega)
                obtain ⟨s1, hs1⟩ : ∃ s1, (stG n m D ⟨a, v, 1⟩ (fun _ => 0) (t - 1)) = s1 := ⟨_, rfl⟩
                have hld := HLd.out
                rw [hs1] at hld
                have HL1 := Aside0.mk hld
                have HS1 : Aside0 (tkL n m D s1 0 = s) := ⟨by rw [← hs1, ← HSt.out]; obtain ⟨t', rfl⟩ : ∃ t', t = t' + 1 := ⟨t - 1, by omega⟩; rfl⟩
                clear hld hs1 h0 HLd
                go_wp2_with (go_at_call 131; with_reducible refine (sling_tick.calls gl n m D s1 0 _ HL1.out).mono ?_; rintro e w9 ⟨rfl, hT⟩; have HT9 := Aside0.mk hT; clear hT)
                have HLs : Aside0 (w9.heap[gl]? = some (.cells (ldC n m D s) 177 (0, 0))) := ⟨by have := HT9.out.1; rw [HS1.out] at this; exact this⟩
                have HBs := Aside0.mk (blk_kept HBd.out HT9.out.2.1 HNe.out)
                have HWs := Aside0.mk (HBr.out.trans (HT9.out.2.2.mono GEgl.out))
                clear HBd HBr HT9 HL1
                have q3 : w9.cell? ⟨gl, 3, none⟩ = some (.int .i64 s.a) := (blk_cell HLs.out 3).trans rfl
                have q5 : w9.cell? ⟨gl, 5, none⟩ = some (.int .i64 s.d) := (blk_cell HLs.out 5).trans rfl
                have b0 : w9.cell? ⟨gb, 0, none⟩ = some (.int .i64 lo) := (blk_cell HBs.out 0).trans rfl
                have b1 : w9.cell? ⟨gb, 1, none⟩ = some (.int .i64 hi) := (blk_cell HBs.out 1).trans rfl
                have hin7 : sling_within.f s.a (IntKind.i64.wrap (lo * s.d)) (IntKind.i64.wrap (hi * s.d)) = some (inL s lo hi) := by rw [i64_w, i64_w]; exact sw7 _ _ _
                have hcs := HC.out
                rw [HSt.out, HC0.out] at hcs
                cases hin : inL s lo hi with
                | true =>
                  rw [hin] at hin7 hcs
                  have hin8 := hin7
                  rw [i64_w, i64_w] at hin8
                  have HIn := Aside0.mk hin7
                  have HIm := Aside0.mk hin8
                  clear hin8
                  have HCs := Aside0.mk hcs
                  clear hin hin7 hcs
                  go_quiet ((go_at_call 115; first | (with_reducible exact within_q _ _ _ _ HIn.out _ _) | (with_reducible exact within_q _ _ _ _ HIm.out _ _)))
                  have HLq : Aside0 ((w9.drewN nq).heap[gl]? = some (.cells (ldC n m D s) 177 (0, 0))) := ⟨blk_drewN HLs.out nq⟩
                  have HBq : Aside0 ((w9.drewN nq).heap[gb]? = some (.cells #[.int .i64 lo, .int .i64 hi] 27 (0, 0))) := ⟨blk_drewN HBs.out nq⟩
                  have HWq : Aside0 (Below w.heap.size w (w9.drewN nq)) := ⟨pw_below_drewN HWs.out nq⟩
                  obtain ⟨wq, hwq⟩ : ∃ wq, w9.drewN nq = wq := ⟨_, rfl⟩
                  rw [hwq] at HLq HBq HWq ⊢
                  clear hwq q3 q5 b0 b1 HLs HBs HWs
                  go_wp2
                  go_roundw
                  case measure => simp [intOf]; omega
                  case rel => exact ⟨t + 1, by go_num, by rw [HCs.out]; rfl, ⟨by omega⟩, ⟨by rw [Nat.add_sub_cancel, HSt.out]; exact HLq.out⟩, HBq, HWq⟩
                | false =>
                  rw [hin] at hin7 hcs
                  have hin8 := hin7
                  rw [i64_w, i64_w] at hin8
                  have HIn := Aside0.mk hin7
                  have HIm := Aside0.mk hin8
                  clear hin8
                  have HCs := Aside0.mk hcs
                  clear hin hin7 hcs
                  go_quiet ((go_at_call 115; first | (with_reducible exact within_q _ _ _ _ HIn.out _ _) | (with_reducible exact within_q _ _ _ _ HIm.out _ _)))
                  have HLq : Aside0 ((w9.drewN nq).heap[gl]? = some (.cells (ldC n m D s) 177 (0, 0))) := ⟨blk_drewN HLs.out nq⟩
                  have HBq : Aside0 ((w9.drewN nq).heap[gb]? = some (.cells #[.int .i64 lo, .int .i64 hi] 27 (0, 0))) := ⟨blk_drewN HBs.out nq⟩
                  have HWq : Aside0 (Below w.heap.size w (w9.drewN nq)) := ⟨pw_below_drewN HWs.out nq⟩
                  obtain ⟨wq, hwq⟩ : ∃ wq, w9.drewN nq = wq := ⟨_, rfl⟩
                  rw [hwq] at HLq HBq HWq ⊢
                  clear hwq q3 q5 b0 b1 HLs HBs HWs
                  go_wp2
                  go_roundw
                  case measure => simp [intOf]; omega
                  case rel => exact ⟨t + 1, by go_num, by rw [HCs.out]; simp, ⟨by omega⟩, ⟨by rw [Nat.add_sub_cancel, HSt.out]; exact HLq.out⟩, HBq, HWq⟩
            · obtain rfl : t = T + 1 := by have := HX.out; omega
              have hdx : decide (((T + 1 : Nat) : Int) < (T : Int) + 1) = false := decide_eq_false (by omega)
              have HB := HBr
              have h' := H'.out
              obtain ⟨c1, hc1⟩ : ∃ c1, (calmT n m D ⟨a, v, 1⟩ lo hi (T + 1)) = c1 := ⟨_, rfl⟩
              rw [hc1] at h' ⊢
              by_cases hgt : (c1 : Int) > (T : Int)
              · have hdg : decide (T < c1) = true := decide_eq_true (by omega)
                rw [if_pos hgt] at h'
                cases h'
                clear hgt hc1
                go_wp2
                refine bodyPost_ret (results_list (rs := [.tmp 8, .tmp 9]) rfl (by simp) (.tmp (.tmp .nil))) rfl ?_
                exact ⟨rfl, HB.out⟩
              · have hdg : decide (T < c1) = false := decide_eq_false (by omega)
                rw [if_neg hgt] at h'
                cases h'
                clear hgt hc1
                go_wp2
                refine bodyPost_ret (results_list (rs := [.tmp 8, .tmp 9]) rfl (by simp) (.tmp (.tmp .nil))) rfl ?_
                exact ⟨rfl, HB.out⟩
end Go.Proofs.Yteodlmgmmpkpoaa.PS
end
section
namespace Go.Proofs.Yteodlmgmmpkpoaa.PS
open Go.RowKit Go.Proofs.YteodlmgmmpkpoaaW.PrintWords Go.Proofs.YteodlmgmmpkpoaaW.PrintLast Go.Proofs.YteodlmgmmpkpoaaW.PrintMore
attribute [local go_sem] max2_int min2_int max_two min_two max_three min_three max_four min_four   -- for this text's walks alone
set_option linter.unusedVariables false
set_option linter.unusedSimpArgs false
attribute [local go_sem high] eqA28
def swashplatelaw07_sameFractions.l0 : Nat → List (S28) → List (S28) → Int → Option (Bool)
 | 0, _, _, _ => none
 | k + 1, x0, x1, x5 => if x5 < (x0.length : Int) then (if 0 ≤ x5 then (if x5 < (x1.length : Int) then (if (!(((rd_T28 x0 x5).f0) == ((rd_T28 x1 x5).f0)) || (!(((rd_T28 x0 x5).f1) == ((rd_T28 x1 x5).f1)))) = true then (some false) else (swashplatelaw07_sameFractions.l0 k x0 x1 (wrap64 (x5 + 1)))) else (none)) else (none)) else (some true)
def swashplatelaw07_sameFractions.f (k : Nat) (l0 : List (S28)) (l1 : List (S28)) : Option (Bool) := if (l0.length : Int) = (l1.length : Int) then (swashplatelaw07_sameFractions.l0 k l0 l1 0) else (some false)
set_option maxHeartbeats 8000000 in
set_option maxRecDepth 100000 in
theorem swashplatelaw07_sameFractions.calls (k : Nat) (A0 : Option Addr) (c0 : Nat) (l0 : List (S28)) (A1 : Option Addr) (c1 : Nat) (l1 : List (S28)) (r : Bool) (w : World) (hr0 : Kd.C k28 w A0 l0.length l0) (hc0 : l0.length ≤ c0) (hr1 : Kd.C k28 w A1 l1.length l1) (hc1 : l1.length ≤ c1) (h : swashplatelaw07_sameFractions.f k l0 l1 = some r) :
  Calls Try.prog 72 #[.slice A0 l0.length c0, .slice A1 l1.length c1] w fun e w' => e = .returned (.bool r) ∧ Drawn0 w w' := by
 have hu28 := Try.underlying28
 have HR0 := Aside0.mk hr0
 have HC0 := Aside0.mk hc0
 clear hr0 hc0
 have HR1 := Aside0.mk hr1
 have HC1 := Aside0.mk hc1
 clear hr1 hc1
 have H : (if (l0.length : Int) = (l1.length : Int) then (swashplatelaw07_sameFractions.l0 k l0 l1 0) else (some false)) = some r := h
 clear h
 by_cases c3 : (l0.length : Int) = (l1.length : Int)
 ·
  rw [if_pos c3] at H
  have c3b0 : ((l0.length : Int) == (l1.length : Int)) = true := beq_iff_eq.mpr c3
  have c3b1 : ((l0.length : Int) != (l1.length : Int)) = false := bne_eq_false_iff_eq.mpr c3
  have c3b2 : (l0.length == l1.length) = true := by first | simpa using c3 | (simp at c3 ⊢; omega)
  clear c3
  have H' := Aside0.mk H
  clear H
  go_enter Try.func72, Try.ntmps72
  go_wp2
  go_loopg [5] k (fun kq v5 w' => ∃ (x5_1 : Int), v5 = .int .i64 x5_1 ∧ Aside0 (swashplatelaw07_sameFractions.l0 kq l0 l1 x5_1 = some r) ∧ Aside0 (kq ≤ k) ∧ Drawn0 w w')
  case atStart => exact ⟨(0), (by first | rfl | (simp; done) | (simp [*]; done)), H', ⟨Nat.le_refl _⟩, by repeat (first | exact Drawn0.refl _ | apply Drawn0.step)⟩
  case round =>
   clear H'
   try clear c1
   try clear p2
   try clear c3
   try clear c3b0
   try clear c3b1
   try clear c3b2
   obtain ⟨x5_1, rfl, HA, HK1, ⟨m1, rfl⟩⟩ := hrel
   cases gk with
   | zero => exact absurd HA.out (by simp [swashplatelaw07_sameFractions.l0])
   | succ k1 =>
    have H := HA.out
    clear HA
    simp only [swashplatelaw07_sameFractions.l0] at H
    by_cases c4 : x5_1 < (l0.length : Int)
    ·
     rw [if_pos c4] at H
     have c4b0 : decide (x5_1 < (l0.length : Int)) = true := decide_eq_true c4
     clear c4
     by_cases c5 : 0 ≤ x5_1
     ·
      rw [if_pos c5] at H
      have c5b0 : decide (0 ≤ x5_1) = true := decide_eq_true c5
      clear c5
      by_cases c6 : x5_1 < (l1.length : Int)
      ·
       rw [if_pos c6] at H
       have c6b0 : decide (x5_1 < (l1.length : Int)) = true := decide_eq_true c6
       clear c6
       by_cases c7 : (!(((rd_T28 l0 x5_1).f0) == ((rd_T28 l1 x5_1).f0)) || (!(((rd_T28 l0 x5_1).f1) == ((rd_T28 l1 x5_1).f1)))) = true
       ·
        rw [if_pos c7] at H
        have c7b0 : (!(((rd_T28 l0 x5_1).f0) == ((rd_T28 l1 x5_1).f0)) || (!(((rd_T28 l0 x5_1).f1) == ((rd_T28 l1 x5_1).f1)))) = true := c7
        clear c7
        obtain rfl := Option.some.inj H
        have p150 : 0 ≤ (x5_1 : Int) := of_decide_eq_true (by first | (with_reducible assumption) | assumption)
        have q150 : x5_1 < (l0.length : Int) := of_decide_eq_true (by first | (with_reducible assumption) | assumption)
        obtain ⟨ad150, e150, hx150_0, hx150_1⟩ := at_T28 HR0.out x5_1 p150 q150
        cases e150
        replace p150 := eq_true p150
        replace q150 := eq_true q150
        have p151 : 0 ≤ (x5_1 : Int) := of_decide_eq_true (by first | (with_reducible assumption) | assumption)
        have q151 : x5_1 < (l1.length : Int) := of_decide_eq_true (by first | (with_reducible assumption) | assumption)
        obtain ⟨ad151, e151, hx151_0, hx151_1⟩ := at_T28 HR1.out x5_1 p151 q151
        cases e151
        replace p151 := eq_true p151
        replace q151 := eq_true q151
        go_wp2
        repeat (go_quiet (fail); try go_wp2)
        go_ret
        exact ⟨by first | rfl | (simp; done) | (simp [*]; done), by repeat (first | exact Drawn0.refl _ | apply Drawn0.step)⟩
       ·
        rw [if_neg c7] at H
        have c7b0 : (!(((rd_T28 l0 x5_1).f0) == ((rd_T28 l1 x5_1).f0)) || (!(((rd_T28 l0 x5_1).f1) == ((rd_T28 l1 x5_1).f1)))) = false := by simpa using c7
        clear c7
        have H' := Aside0.mk H
        clear H
        have p150 : 0 ≤ (x5_1 : Int) := of_decide_eq_true (by first | (with_reducible assumption) | assumption)
        have q150 : x5_1 < (l0.length : Int) := of_decide_eq_true (by first | (with_reducible assumption) | assumption)
        obtain ⟨ad150, e150, hx150_0, hx150_1⟩ := at_T28 HR0.out x5_1 p150 q150
        cases e150
        replace p150 := eq_true p150
        replace q150 := eq_true q150
        have p151 : 0 ≤ (x5_1 : Int) := of_decide_eq_true (by first | (with_reducible assumption) | assumption)
        have q151 : x5_1 < (l1.length : Int) := of_decide_eq_true (by first | (with_reducible assumption) | assumption)
        obtain ⟨ad151, e151, hx151_0, hx151_1⟩ := at_T28 HR1.out x5_1 p151 q151
        cases e151
        replace p151 := eq_true p151
        replace q151 := eq_true q151
        go_wp2
        repeat (go_quiet (fail); try go_wp2)
        go_roundg k1
        case measure => have := HK1.out; omega
        case rel => exact ⟨(wrap64 (x5_1 + 1)), (by first | rfl | (simp; done) | (simp [*]; done)), H', ⟨by have := HK1.out; omega⟩, by repeat (first | exact Drawn0.refl _ | apply Drawn0.step)⟩
      ·
       rw [if_neg c6] at H
       exact absurd H (by simp)
     ·
      rw [if_neg c5] at H
      exact absurd H (by simp)
    ·
     rw [if_neg c4] at H
     have c4b0 : decide (x5_1 < (l0.length : Int)) = false := decide_eq_false c4
     clear c4
     obtain rfl := Option.some.inj H
     go_wp2
     go_ret
     exact ⟨by first | rfl | (simp; done) | (simp [*]; done), by repeat (first | exact Drawn0.refl _ | apply Drawn0.step)⟩
 ·
  rw [if_neg c3] at H
  have c3b0 : ((l0.length : Int) == (l1.length : Int)) = false := beq_eq_false_iff_ne.mpr c3
  have c3b1 : ((l0.length : Int) != (l1.length : Int)) = true := bne_iff_ne.mpr c3
  have c3b2 : (l0.length == l1.length) = false := by first | simpa using c3 | (simp at c3 ⊢; omega)
  obtain rfl := Option.some.inj H
  go_enter Try.func72, Try.ntmps72
  go_wp2
  go_ret
  exact ⟨by first | rfl | (simp; done) | (simp [*]; done), by repeat (first | exact Drawn0.refl _ | apply Drawn0.step)⟩
end Go.Proofs.Yteodlmgmmpkpoaa.PS
end
section
namespace Go.Proofs.Yteodlmgmmpkpoaa.PS
open Go.RowKit Go.Proofs.YteodlmgmmpkpoaaW.PrintWords Go.Proofs.YteodlmgmmpkpoaaW.PrintLast Go.Proofs.YteodlmgmmpkpoaaW.PrintMore
set_option linter.unusedVariables false
set_option linter.unusedSimpArgs false
theorem keep7 {w w' : World} (hb : Below w.heap.size w w') {p0 p1 p2 p3 p4 p5 p6 : Addr} {v0 v1 v2 v3 v4 v5 v6 : Value} (h : w.cell? p0 = some v0 ∧ w.cell? p1 = some v1 ∧ w.cell? p2 = some v2 ∧ w.cell? p3 = some v3 ∧ w.cell? p4 = some v4 ∧ w.cell? p5 = some v5 ∧ w.cell? p6 = some v6) : w'.cell? p0 = some v0 ∧ w'.cell? p1 = some v1 ∧ w'.cell? p2 = some v2 ∧ w'.cell? p3 = some v3 ∧ w'.cell? p4 = some v4 ∧ w'.cell? p5 = some v5 ∧ w'.cell? p6 = some v6 := by
  obtain ⟨h0, h1, h2, h3, h4, h5, h6⟩ := h
  exact ⟨(hb.cell (World.block_lt_of_cell? _ _ h0)).trans h0, (hb.cell (World.block_lt_of_cell? _ _ h1)).trans h1, (hb.cell (World.block_lt_of_cell? _ _ h2)).trans h2, (hb.cell (World.block_lt_of_cell? _ _ h3)).trans h3, (hb.cell (World.block_lt_of_cell? _ _ h4)).trans h4, (hb.cell (World.block_lt_of_cell? _ _ h5)).trans h5, (hb.cell (World.block_lt_of_cell? _ _ h6)).trans h6⟩
def hoistB (cab : Int) (X Y : List Int) (V : List (List Int)) (chg : Int) : Bool :=
  (decide (1 ≤ cab) && decide (cab ≤ 100)) && (tableB X Y V && (decide (gI X 0 ≤ 0) && (decide (cab ≤ gI X (X.length - 1)) && (decide (0 ≤ chg) && decide (chg ≤ 100)))))
theorem tb_lens2 {X Y : List Int} {V : List (List Int)} (h : tableB X Y V = true) : 2 ≤ X.length ∧ X.length ≤ 12 := by
  unfold tableB axisB at h
  simp only [Bool.and_eq_true, decide_eq_true_eq] at h
  omega
set_option maxRecDepth 100000 in
set_option maxHeartbeats 4000000 in
theorem checkHoist_yes (cab : Int) (A0' : Option Addr) (c0 : Nat) (X : List Int) (A1 : Option Addr) (c1 : Nat) (Y : List Int) (A2 : Option Addr) (c2 : Nat) (V : List (List Int)) (chg : Int) (w : World)
    (hr0 : Kd.C (Kd.int .i64) w A0' X.length X) (hc0 : X.length ≤ c0) (hr1 : Kd.C (Kd.int .i64) w A1 Y.length Y) (hc1 : Y.length ≤ c1) (hr2 : Kd.C (Kd.slice 3 (Kd.int .i64)) w A2 V.length V) (hc2 : V.length ≤ c2) (h : hoistB cab X Y V chg = true) :
    Calls Try.prog 168 #[.agg #[.int .i64 cab, .slice A0' X.length c0, .slice A1 Y.length c1, .slice A2 V.length c2, .int .i64 chg]] w fun e w' => e = .returned (.int .i64 0) ∧ Below w.heap.size w w' := by
  unfold hoistB at h
  simp only [Bool.and_eq_true, decide_eq_true_eq] at h
  obtain ⟨⟨h1, h2⟩, ht, h3, h4, h5, h6⟩ := h
  have hl := tb_lens2 ht
  have H1 : Aside0 (sling_within.f cab 1 100 = some true) := ⟨by rw [sw7, decide_eq_true h1, decide_eq_true h2]; rfl⟩
  have H2 : Aside0 (spans_CheckTable.f X Y V = some 0) := ⟨by unfold spans_CheckTable.f; rw [ht, if_pos rfl]⟩
  have H3 : Aside0 (sling_within.f chg 0 100 = some true) := ⟨by rw [sw7, decide_eq_true h5, decide_eq_true h6]; rfl⟩
  obtain ⟨A0, e0, y0⟩ := Kd.at_int hr0 0 (by omega) (by omega)
  obtain ⟨A0b, e1, y1⟩ := Kd.at_int hr0 (((X.length - 1 : Nat) : Int)) (by omega) (by omega)
  subst e0
  injection e1 with e1
  subst e1
  rw [show A0.add (Int.toNat 0) = A0 by unfold Addr.add; simp] at y0
  rw [Int.toNat_natCast] at y1
  obtain ⟨x0, hx0⟩ : ∃ x, rd X 0 = x := ⟨_, rfl⟩
  obtain ⟨x1, hx1⟩ : ∃ x, rd X ((X.length - 1 : Nat) : Int) = x := ⟨_, rfl⟩
  rw [hx0] at y0
  rw [hx1] at y1
  have d0 : decide (x0 > 0) = false := decide_eq_false (by have : x0 = gI X 0 := hx0.symm; omega)
  have e : rd X ((X.length - 1 : Nat) : Int) = gI X (X.length - 1) := by unfold rd gI; rw [Int.toNat_natCast]
  rw [hx1] at e
  have d1 : decide (x1 < cab) = false := decide_eq_false (by omega)
  clear e
  have wl : IntKind.i64.wrap ((X.length : Int) - 1) = ((X.length - 1 : Nat) : Int) := by rw [i64_w, wr64 (by omega) (by omega)]; omega
  have HR0 := Aside0.mk hr0
  have HR1 := Aside0.mk hr1
  have HR2 := Aside0.mk hr2
  have HY0 := Aside0.mk y0
  have HY1 := Aside0.mk y1
  have i0 : (0 : Int) < (X.length : Int) := by omega
  have i0n : 0 < X.length := by omega
  have i1 : (0 : Int) ≤ ((X.length - 1 : Nat) : Int) := by omega
  have i2 : ((X.length - 1 : Nat) : Int) < (X.length : Int) := by omega
  have i2n : X.length - 1 < X.length := by omega
  clear hl
  clear hr0 hr1 hr2 y0 y1 hx0 hx1 h1 h2 h3 h4 h5 h6 ht
  have HB := Aside0.mk (Below.refl w.heap.size w)
  go_enter Try.func168, Try.ntmps168
  go_wp2_with (first | ((with_reducible refine gate_dst (N := 1) rfl ?_); refine box_event ?hg (N := 1) ?hd (cs := #[.int .i64 cab, .slice (some A0) X.length c0, .slice A1 Y.length c1, .slice A2 V.length c2, .int .i64 chg]) (t := 62) ?hr ?_; (case hd => rfl); (case hg => rfl); (case hr => first | (go_simp; done) | (go_simp; rfl)); intro gh hg w1 hbox hb; have n0_ := Aside0.mk (below_step HB.out hb); have x0_ := Aside0.mk (hbox); have x1_ := Aside0.mk ((by rw [hg]; exact HB.out.size : w.heap.size ≤ gh)); clear HB; have HB := n0_; clear n0_; have BKgh := x0_; clear x0_; have GEgh := x1_; clear x1_; clear hb hbox hg; have zgh0 : w1.cell? ⟨gh, 0, none⟩ = some (.int .i64 cab) := (blk_cell BKgh.out 0).trans rfl; have zgh1 : w1.cell? ⟨gh, 1, none⟩ = some (.slice (some A0) X.length c0) := (blk_cell BKgh.out 1).trans rfl; have zgh2 : w1.cell? ⟨gh, 2, none⟩ = some (.slice A1 Y.length c1) := (blk_cell BKgh.out 2).trans rfl; have zgh3 : w1.cell? ⟨gh, 3, none⟩ = some (.slice A2 V.length c2) := (blk_cell BKgh.out 3).trans rfl; have zgh4 : w1.cell? ⟨gh, 4, none⟩ = some (.int .i64 chg) := (blk_cell BKgh.out 4).trans rfl; skip))
  have HY0' := Aside0.mk ((HB.out.cell (World.block_lt_of_cell? _ _ HY0.out)).trans HY0.out)
  have HY1' := Aside0.mk ((HB.out.cell (World.block_lt_of_cell? _ _ HY1.out)).trans HY1.out)
  have q0 := HY0'.out
  have q1 := HY1'.out
  go_region_held3 (fun w' => w'.cell? ⟨gh, 0, none⟩ = some (.int .i64 cab) ∧ w'.cell? ⟨gh, 1, none⟩ = some (.slice (some A0) X.length c0) ∧ w'.cell? ⟨gh, 2, none⟩ = some (.slice A1 Y.length c1) ∧ w'.cell? ⟨gh, 3, none⟩ = some (.slice A2 V.length c2) ∧ w'.cell? ⟨gh, 4, none⟩ = some (.int .i64 chg) ∧ w'.cell? A0 = some (.int .i64 x0) ∧ w'.cell? (A0.add (X.length - 1)) = some (.int .i64 x1))
    (((try dsimp only); (first | assumption | exact ⟨zgh0, zgh1, zgh2, zgh3, zgh4, q0, q1⟩ | exact keep7 hb (by assumption))))
    ((first
      | (go_at_call 115; (with_reducible refine (within_c _ _ _ _ H1.out _).mono ?_); rintro e w2 ⟨rfl, hb⟩; have n0_ := Aside0.mk (show Below w.heap.size w _ from below_step (by first | exact HB.out | exact below_drew1 HB.out) hb); clear HB; have HB := n0_; clear n0_)
      | (go_at_call 115; (with_reducible refine (within_c _ _ _ _ H3.out _).mono ?_); rintro e w2 ⟨rfl, hb⟩; have n0_ := Aside0.mk (show Below w.heap.size w _ from below_step (by first | exact HB.out | exact below_drew1 HB.out) hb); clear HB; have HB := n0_; clear n0_)
      | (go_at_call 29; (with_reducible refine (spans_CheckTable.calls _ _ _ _ _ _ _ _ _ _ _ (Kd.C_below HR0.out HB.out) hc0 (Kd.C_below HR1.out HB.out) hc1 (Kd.C_below HR2.out HB.out) hc2 H2.out).mono ?_); rintro e w2 ⟨rfl, hb⟩; have n0_ := Aside0.mk (show Below w.heap.size w _ from below_step (by first | exact HB.out | exact below_drew1 HB.out) hb); clear HB; have HB := n0_; clear n0_)))
  go_wp2
  go_ret
  exact ⟨rfl, HB.out⟩
end Go.Proofs.Yteodlmgmmpkpoaa.PS
end
section
namespace Go.Proofs.Yteodlmgmmpkpoaa.PS
open Go.RowKit Go.Proofs.YteodlmgmmpkpoaaW.PrintWords Go.Proofs.YteodlmgmmpkpoaaW.PrintLast Go.Proofs.YteodlmgmmpkpoaaW.PrintMore
set_option linter.unusedVariables false
set_option linter.unusedSimpArgs false
theorem keep9 {w w' : World} (hb : Below w.heap.size w w') {p0 p1 p2 p3 p4 p5 p6 p7 p8 : Addr} {v0 v1 v2 v3 v4 v5 v6 v7 v8 : Value} (h : w.cell? p0 = some v0 ∧ w.cell? p1 = some v1 ∧ w.cell? p2 = some v2 ∧ w.cell? p3 = some v3 ∧ w.cell? p4 = some v4 ∧ w.cell? p5 = some v5 ∧ w.cell? p6 = some v6 ∧ w.cell? p7 = some v7 ∧ w.cell? p8 = some v8) : w'.cell? p0 = some v0 ∧ w'.cell? p1 = some v1 ∧ w'.cell? p2 = some v2 ∧ w'.cell? p3 = some v3 ∧ w'.cell? p4 = some v4 ∧ w'.cell? p5 = some v5 ∧ w'.cell? p6 = some v6 ∧ w'.cell? p7 = some v7 ∧ w'.cell? p8 = some v8 := by
  obtain ⟨h0, h1, h2, h3, h4, h5, h6, h7, h8⟩ := h
  exact ⟨(hb.cell (World.block_lt_of_cell? _ _ h0)).trans h0, (hb.cell (World.block_lt_of_cell? _ _ h1)).trans h1, (hb.cell (World.block_lt_of_cell? _ _ h2)).trans h2, (hb.cell (World.block_lt_of_cell? _ _ h3)).trans h3, (hb.cell (World.block_lt_of_cell? _ _ h4)).trans h4, (hb.cell (World.block_lt_of_cell? _ _ h5)).trans h5, (hb.cell (World.block_lt_of_cell? _ _ h6)).trans h6, (hb.cell (World.block_lt_of_cell? _ _ h7)).trans h7, (hb.cell (World.block_lt_of_cell? _ _ h8)).trans h8⟩
def wiC (cab : Int) (A0 : Option Addr) (n0 c0 : Nat) (A1 : Option Addr) (n1 c1 : Nat) (A2 : Option Addr) (n2 c2 : Nat) (chg u0 u1 len wt since cyc : Int) (cut touched : Bool) : Array Value :=
  #[.int .i64 cab, .slice A0 n0 c0, .slice A1 n1 c1, .slice A2 n2 c2, .int .i64 chg, .int .i64 u0, .int .i64 u1, .int .i64 len, .int .i64 wt, .int .i64 since, .int .i64 cyc, .bool cut, .bool touched]
theorem tb_lens3 {X Y : List Int} {V : List (List Int)} (h : tableB X Y V = true) : 2 ≤ Y.length ∧ Y.length ≤ 12 := by
  unfold tableB axisB at h
  simp only [Bool.and_eq_true, decide_eq_true_eq] at h
  omega
set_option maxRecDepth 100000 in
set_option maxHeartbeats 4000000 in
theorem newWinch_yes (cab : Int) (A0 : Option Addr) (c0 : Nat) (X : List Int) (A1' : Option Addr) (c1 : Nat) (Y : List Int) (A2 : Option Addr) (c2 : Nat) (V : List (List Int)) (chg u0 u1 : Int) (w : World)
    (hr0 : Kd.C (Kd.int .i64) w A0 X.length X) (hc0 : X.length ≤ c0) (hr1 : Kd.C (Kd.int .i64) w A1' Y.length Y) (hc1 : Y.length ≤ c1) (hr2 : Kd.C (Kd.slice 3 (Kd.int .i64)) w A2 V.length V) (hc2 : V.length ≤ c2) (h : hoistB cab X Y V chg = true) (hu : okS u0 u1 = true)
    (hl : gI Y 0 ≤ u0) :
    Calls Try.prog 113 #[.agg #[.int .i64 cab, .slice A0 X.length c0, .slice A1' Y.length c1, .slice A2 V.length c2, .int .i64 chg], .agg #[.int .i64 u0, .int .i64 u1]] w fun e w' => ∃ g, e = .returned (.tuple #[.pointer (some ⟨g, 0, none⟩), .bool (decide (u1 ≤ gI Y (Y.length - 1))), .int .i64 0]) ∧
      w'.heap[g]? = some (.cells (wiC cab A0 X.length c0 A1' Y.length c1 A2 V.length c2 chg u0 u1 0 0 0 0 false false) 160 (0, 0)) ∧ w.heap.size ≤ g ∧ Below w.heap.size w w' := by
  have HH := Aside0.mk h
  unfold hoistB at h
  simp only [Bool.and_eq_true, decide_eq_true_eq] at h
  have hlen := tb_lens3 h.2.1
  have ckb := check_total [⟨u0, u1⟩]
  rw [box1, hu, if_pos rfl] at ckb
  have HBX := Aside0.mk ckb
  obtain ⟨A1, e0, yy0⟩ := Kd.at_int hr1 0 (by omega) (by omega)
  obtain ⟨A1b, e1, yy1⟩ := Kd.at_int hr1 (((Y.length - 1 : Nat) : Int)) (by omega) (by omega)
  subst e0
  injection e1 with e1
  subst e1
  rw [show A1.add (Int.toNat 0) = A1 by unfold Addr.add; simp] at yy0
  rw [Int.toNat_natCast] at yy1
  have eY : rd Y ((Y.length - 1 : Nat) : Int) = gI Y (Y.length - 1) := by unfold rd gI; rw [Int.toNat_natCast]
  have eY0 : rd Y 0 = gI Y 0 := rfl
  rw [eY0] at yy0
  rw [eY] at yy1
  obtain ⟨y0, hy0⟩ : ∃ x, gI Y 0 = x := ⟨_, rfl⟩
  obtain ⟨y1, hy1⟩ : ∃ x, gI Y (Y.length - 1) = x := ⟨_, rfl⟩
  rw [hy0] at yy0 hl
  rw [hy1] at yy1 ⊢
  have d0 : decide (u0 ≥ y0) = true := decide_eq_true hl
  have wl : IntKind.i64.wrap ((Y.length : Int) - 1) = ((Y.length - 1 : Nat) : Int) := by rw [i64_w, wr64 (by omega) (by omega)]; omega
  have HR0 := Aside0.mk hr0
  have HR1 := Aside0.mk hr1
  have HR2 := Aside0.mk hr2
  have HY0 := Aside0.mk yy0
  have HY1 := Aside0.mk yy1
  have i0 : (0 : Int) < (Y.length : Int) := by omega
  have i0n : 0 < Y.length := by omega
  have i1 : (0 : Int) ≤ ((Y.length - 1 : Nat) : Int) := by omega
  have i2 : ((Y.length - 1 : Nat) : Int) < (Y.length : Int) := by omega
  have i2n : Y.length - 1 < Y.length := by omega
  clear hlen
  clear hr0 hr1 hr2 yy0 yy1 hy0 hy1 h eY eY0 ckb hu hl
  have HB := Aside0.mk (Below.refl w.heap.size w)
  go_enter Try.func113, Try.ntmps113
  go_wp2_with (first | ((with_reducible refine gate_dst (N := 2) rfl ?_); refine box_event ?hg (N := 2) ?hd (cs := #[.int .i64 cab, .slice A0 X.length c0, .slice (some A1) Y.length c1, .slice A2 V.length c2, .int .i64 chg]) (t := 62) ?hr ?_; (case hd => rfl); (case hg => rfl); (case hr => first | (go_simp; done) | (go_simp; rfl)); intro gh hg w1 hbox hb; have n0_ := Aside0.mk (below_step HB.out hb); have x0_ := Aside0.mk (hbox); have x1_ := Aside0.mk ((by rw [hg]; exact HB.out.size : w.heap.size ≤ gh)); clear HB; have HB := n0_; clear n0_; have BKgh := x0_; clear x0_; have GEgh := x1_; clear x1_; clear hb hbox hg; skip) | ((with_reducible refine gate_dst (N := 3) rfl ?_); refine box_event ?hg (N := 3) ?hd (cs := #[.int .i64 u0, .int .i64 u1]) (t := 27) ?hr ?_; (case hd => rfl); (case hg => rfl); (case hr => first | (go_simp; done) | (go_simp; rfl)); intro gw hg w2 hbox hb; have n0_ := Aside0.mk (below_step HB.out hb); have m0_ := Aside0.mk (blk_below BKgh.out hb); have x0_ := Aside0.mk (hbox); have x1_ := Aside0.mk ((by rw [hg]; exact HB.out.size : w.heap.size ≤ gw)); clear HB; have HB := n0_; clear n0_; clear BKgh; have BKgh := m0_; clear m0_; have BKgw := x0_; clear x0_; have GEgw := x1_; clear x1_; clear hb hbox hg; have zgh0 : w2.cell? ⟨gh, 0, none⟩ = some (.int .i64 cab) := (blk_cell BKgh.out 0).trans rfl; have zgh1 : w2.cell? ⟨gh, 1, none⟩ = some (.slice A0 X.length c0) := (blk_cell BKgh.out 1).trans rfl; have zgh2 : w2.cell? ⟨gh, 2, none⟩ = some (.slice (some A1) Y.length c1) := (blk_cell BKgh.out 2).trans rfl; have zgh3 : w2.cell? ⟨gh, 3, none⟩ = some (.slice A2 V.length c2) := (blk_cell BKgh.out 3).trans rfl; have zgh4 : w2.cell? ⟨gh, 4, none⟩ = some (.int .i64 chg) := (blk_cell BKgh.out 4).trans rfl; skip) | (go_at_call 168; refine (checkHoist_yes cab A0 c0 X (some A1) c1 Y A2 c2 V chg _ (Kd.C_below HR0.out HB.out) hc0 (Kd.C_below HR1.out HB.out) hc1 (Kd.C_below HR2.out HB.out) hc2 HH.out).mono ?_; rintro e w3 ⟨rfl, hb⟩; have n0_ := Aside0.mk (below_step HB.out hb); have m0_ := Aside0.mk (blk_below BKgh.out hb); have m1_ := Aside0.mk (blk_below BKgw.out hb); clear HB; have HB := n0_; clear n0_; clear BKgh; have BKgh := m0_; clear m0_; clear BKgw; have BKgw := m1_; clear m1_; clear hb; clear zgh0; clear zgh1; clear zgh2; clear zgh3; clear zgh4; have zgw0 : w3.cell? ⟨gw, 0, none⟩ = some (.int .i64 u0) := (blk_cell BKgw.out 0).trans rfl; have zgw1 : w3.cell? ⟨gw, 1, none⟩ = some (.int .i64 u1) := (blk_cell BKgw.out 1).trans rfl; skip) | (go_at_call 26; refine (spans_Check.calls _ 1 [⟨u0, u1⟩] _ _ (C_new27 _ u0 u1) (Nat.le_refl _) HBX.out).mono ?_; rintro e w4 ⟨rfl, hb0⟩; have hb := (below_alloc (Below.refl _ w3) (.cells #[.int .i64 u0, .int .i64 u1] 27)).trans (hb0.mono (by simp)); clear hb0; have n0_ := Aside0.mk (below_step HB.out hb); have m0_ := Aside0.mk (blk_below BKgh.out hb); have m1_ := Aside0.mk (blk_below BKgw.out hb); clear HB; have HB := n0_; clear n0_; clear BKgh; have BKgh := m0_; clear m0_; clear BKgw; have BKgw := m1_; clear m1_; clear hb; clear zgw0; clear zgw1; have zgh0 : w4.cell? ⟨gh, 0, none⟩ = some (.int .i64 cab) := (blk_cell BKgh.out 0).trans rfl; have zgh1 : w4.cell? ⟨gh, 1, none⟩ = some (.slice A0 X.length c0) := (blk_cell BKgh.out 1).trans rfl; have zgh2 : w4.cell? ⟨gh, 2, none⟩ = some (.slice (some A1) Y.length c1) := (blk_cell BKgh.out 2).trans rfl; have zgh3 : w4.cell? ⟨gh, 3, none⟩ = some (.slice A2 V.length c2) := (blk_cell BKgh.out 3).trans rfl; have zgh4 : w4.cell? ⟨gh, 4, none⟩ = some (.int .i64 chg) := (blk_cell BKgh.out 4).trans rfl; have zgw0 : w4.cell? ⟨gw, 0, none⟩ = some (.int .i64 u0) := (blk_cell BKgw.out 0).trans rfl; have zgw1 : w4.cell? ⟨gw, 1, none⟩ = some (.int .i64 u1) := (blk_cell BKgw.out 1).trans rfl; skip))
  have q0 := (HB.out.cell (World.block_lt_of_cell? _ _ HY0.out)).trans HY0.out
  have q1 := (HB.out.cell (World.block_lt_of_cell? _ _ HY1.out)).trans HY1.out
  go_region_held3 (fun w' => w'.cell? ⟨gh, 0, none⟩ = some (.int .i64 cab) ∧ w'.cell? ⟨gh, 1, none⟩ = some (.slice A0 X.length c0) ∧ w'.cell? ⟨gh, 2, none⟩ = some (.slice (some A1) Y.length c1) ∧ w'.cell? ⟨gh, 3, none⟩ = some (.slice A2 V.length c2) ∧ w'.cell? ⟨gh, 4, none⟩ = some (.int .i64 chg) ∧ w'.cell? ⟨gw, 0, none⟩ = some (.int .i64 u0) ∧ w'.cell? ⟨gw, 1, none⟩ = some (.int .i64 u1) ∧ w'.cell? A1 = some (.int .i64 y0) ∧ w'.cell? (A1.add (Y.length - 1)) = some (.int .i64 y1))
    (((try dsimp only); (first | assumption | exact ⟨zgh0, zgh1, zgh2, zgh3, zgh4, zgw0, zgw1, q0, q1⟩ | exact keep9 (below_alloc (Below.refl _ _) _) (by assumption))))
    ((first | fail))
  all_goals
    go_wp2
    refine bodyPost_ret (results_list (rs := [.tmp 4, .tmp 5, .tmp 6]) rfl (by simp) (.tmp (.tmp (.tmp .nil)))) rfl ?_
    exact ⟨w4.heap.size, rfl, blk_new _ _, HB.out.size, below_alloc (below_drew1 HB.out) _⟩
end Go.Proofs.Yteodlmgmmpkpoaa.PS
end
section
namespace Go.Proofs.Yteodlmgmmpkpoaa.PS
open Go.RowKit Go.Proofs.YteodlmgmmpkpoaaW.PrintWords Go.Proofs.YteodlmgmmpkpoaaW.PrintLast Go.Proofs.YteodlmgmmpkpoaaW.PrintMore
set_option linter.unusedVariables false
theorem spanned2 (a0 a1 b0 b1 : Int) : spans_spanned.f [⟨a0, a1⟩, ⟨b0, b1⟩] = some (if okS a0 a1 && okS b0 b1 then 0 else 10) := by
  unfold spans_spanned.f
  simp only [List.all_cons, List.all_nil, Bool.and_true]
end Go.Proofs.Yteodlmgmmpkpoaa.PS
end
section
namespace Go.Proofs.Yteodlmgmmpkpoaa.PS
open Go.RowKit Go.Proofs.YteodlmgmmpkpoaaW.PrintWords Go.Proofs.YteodlmgmmpkpoaaW.PrintLast Go.Proofs.YteodlmgmmpkpoaaW.PrintMore
set_option linter.unusedVariables false
theorem lies_total {l : List Int} (h : 2 ≤ l.length) (hl : l.length ≤ 15) (a b : Int) : spans_lies.f l a b = some (onB l a b) := by
  have e : wrap64 ((l.length : Int) - 1) = ((l.length - 1 : Nat) : Int) := by rw [wr64 (by omega) (by omega)]; omega
  have e0 : rd l 0 = gI l 0 := rd_nat l 0
  unfold spans_lies.f onB
  rw [if_pos (by omega), e0, e]
  by_cases h1 : a ≥ gI l 0
  · rw [if_pos h1, if_pos (by omega), if_pos (by omega), rd_nat, decide_eq_true (show gI l 0 ≤ a from h1), Bool.true_and]
  · rw [if_neg h1, decide_eq_false (show ¬ gI l 0 ≤ a from h1), Bool.false_and]
theorem tb_lens {X Y : List Int} {V : List (List Int)} (h : tableB X Y V = true) : (2 ≤ X.length ∧ X.length ≤ 12) ∧ (2 ≤ Y.length ∧ Y.length ≤ 12) := by
  unfold tableB axisB at h
  simp only [Bool.and_eq_true, decide_eq_true_eq] at h
  omega
theorem cp_total (X Y : List Int) (V : List (List Int)) (a0 a1 b0 b1 : Int) : spans_checkPoints.f X Y V a0 a1 b0 b1 = some (pointsE X Y V a0 a1 b0 b1) := by
  unfold spans_checkPoints.f pointsE spans_CheckTable.f
  rw [Option.bind_some]
  cases ht : tableB X Y V with
  | false => rfl
  | true =>
    obtain ⟨⟨x0, x1⟩, y0, y1⟩ := tb_lens ht
    rw [if_pos rfl, if_pos rfl, if_pos rfl, spanned2, Option.bind_some]
    cases okS a0 a1 && okS b0 b1 with
    | false => rfl
    | true =>
      rw [if_pos rfl, if_pos rfl, if_pos rfl, lies_total x0 (by omega), Option.bind_some]
      cases onB X a0 a1 with
      | false => rfl
      | true =>
        rw [if_pos rfl, lies_total y0 (by omega), Option.bind_some]
        cases onB Y b0 b1 <;> rfl
theorem points_iff (X Y : List Int) (V : List (List Int)) (a0 a1 b0 b1 : Int) : pointsE X Y V a0 a1 b0 b1 = 0 ↔ pointsB X Y V a0 a1 b0 b1 = true := by
  unfold pointsE pointsB
  cases tableB X Y V <;> cases (okS a0 a1 && okS b0 b1) <;> cases (onB X a0 a1 && onB Y b0 b1) <;> simp
structure Box2 (X Y : List Int) (V : List (List Int)) (a0 a1 b0 b1 : Int) : Prop where
  tab : tableB X Y V = true
  okx : okS a0 a1 = true
  oky : okS b0 b1 = true
  onx : onB X a0 a1 = true
  ony : onB Y b0 b1 = true
theorem box2_of {X Y : List Int} {V : List (List Int)} {a0 a1 b0 b1 : Int} (h : pointsB X Y V a0 a1 b0 b1 = true) : Box2 X Y V a0 a1 b0 b1 := by
  unfold pointsB at h
  simp only [Bool.and_eq_true] at h
  obtain ⟨⟨ht, ho0, ho1⟩, hx, hy⟩ := h
  exact ⟨ht, ho0, ho1, hx, hy⟩
theorem box2_points {X Y : List Int} {V : List (List Int)} {a0 a1 b0 b1 : Int} (h : Box2 X Y V a0 a1 b0 b1) : pointsB X Y V a0 a1 b0 b1 = true := by
  unfold pointsB
  rw [h.tab, h.okx, h.oky, h.onx, h.ony]; rfl
section
variable {X Y : List Int} {V : List (List Int)} {a0 a1 b0 b1 : Int}
theorem Box2.stx (h : Box2 X Y V a0 a1 b0 b1) {x : Int} (hx : x ∈ stopsL X a0 a1) : onB X x x = true ∧ a0 ≤ x ∧ x ≤ a1 := stops_on h.onx (okS_le h.okx) hx
theorem Box2.sty (h : Box2 X Y V a0 a1 b0 b1) {y : Int} (hy : y ∈ stopsL Y b0 b1) : onB Y y y = true ∧ b0 ≤ y ∧ y ≤ b1 := stops_on h.ony (okS_le h.oky) hy
theorem good_at (t : tableB X Y V = true) {x y : Int} (hx : onB X x x = true) (hy : onB Y y y = true) : GoodP (ptAt X Y V x y) := good_pt (tb_of t) (cell_spot (tb_of t).ax hx) (cell_spot (tb_of t).ay hy)
theorem grid_mem {xs ys : List Int} {f : Int → Int → Pt} {q : Pt} (h : q ∈ gridL xs ys f) : ∃ x ∈ xs, ∃ y ∈ ys, q = f x y := by
  unfold gridL at h
  rw [List.mem_flatMap] at h
  obtain ⟨x, hx, hq⟩ := h
  rw [List.mem_map] at hq
  obtain ⟨y, hy, rfl⟩ := hq
  exact ⟨x, hx, y, hy, rfl⟩
theorem Box2.goodL (h : Box2 X Y V a0 a1 b0 b1) {q : Pt} (hq : q ∈ ptsL X Y V a0 a1 b0 b1) : GoodP q := by
  obtain ⟨x, hx, y, hy, rfl⟩ := grid_mem hq
  exact good_at h.tab (h.stx hx).1 (h.sty hy).1
theorem stops_cons (l : List Int) (lo hi : Int) : ∃ r, stopsL l lo hi = lo :: r := ⟨_, rfl⟩
theorem grid_cons (X Y : List Int) (a0 a1 b0 b1 : Int) (f : Int → Int → Pt) : ∃ r, gridL (stopsL X a0 a1) (stopsL Y b0 b1) f = f a0 b0 :: r := by
  obtain ⟨r, hr⟩ := stops_cons X a0 a1
  obtain ⟨s, hs⟩ := stops_cons Y b0 b1
  rw [hr, hs]
  exact ⟨_, rfl⟩
theorem pick_mem (f : Pt → Pt → Bool) : ∀ (l : List Pt) (a : Pt), l.foldl (fun m q => if f m q then q else m) a = a ∨ l.foldl (fun m q => if f m q then q else m) a ∈ l
  | [], a => .inl rfl
  | b :: l, a => by
    rw [List.foldl_cons]
    rcases pick_mem f l (if f a b then b else a) with h | h
    · by_cases hf : f a b = true
      · rw [if_pos hf] at h ⊢; exact .inr (by rw [h]; simp)
      · rw [if_neg hf] at h ⊢; exact .inl h
    · exact .inr (List.mem_cons_of_mem _ h)
theorem least_mem (p : Pt) (l : List Pt) : leastP (p :: l) ∈ p :: l := by
  change l.foldl (fun m q => if ltP q m then q else m) p ∈ p :: l
  rcases pick_mem (fun m q => ltP q m) l p with h | h
  · rw [h]; simp
  · exact List.mem_cons_of_mem _ h
theorem most_mem (p : Pt) (l : List Pt) : mostP (p :: l) ∈ p :: l := by
  change l.foldl (fun m q => if ltP m q then q else m) p ∈ p :: l
  rcases pick_mem (fun m q => ltP m q) l p with h | h
  · rw [h]; simp
  · exact List.mem_cons_of_mem _ h
theorem Box2.least_in (h : Box2 X Y V a0 a1 b0 b1) : leastP (ptsL X Y V a0 a1 b0 b1) ∈ ptsL X Y V a0 a1 b0 b1 := by
  obtain ⟨r, hr⟩ := grid_cons X Y a0 a1 b0 b1 (ptAt X Y V)
  unfold ptsL; rw [hr]; exact least_mem _ _
theorem Box2.most_in (h : Box2 X Y V a0 a1 b0 b1) : mostP (ptsL X Y V a0 a1 b0 b1) ∈ ptsL X Y V a0 a1 b0 b1 := by
  obtain ⟨r, hr⟩ := grid_cons X Y a0 a1 b0 b1 (ptAt X Y V)
  unfold ptsL; rw [hr]; exact most_mem _ _
theorem ext_total (h : Box2 X Y V a0 a1 b0 b1) : spans_extremes.f X Y V a0 a1 b0 b1 =
    some ((leastP (ptsL X Y V a0 a1 b0 b1)).x, (leastP (ptsL X Y V a0 a1 b0 b1)).y, (leastP (ptsL X Y V a0 a1 b0 b1)).n, (leastP (ptsL X Y V a0 a1 b0 b1)).d,
      (mostP (ptsL X Y V a0 a1 b0 b1)).x, (mostP (ptsL X Y V a0 a1 b0 b1)).y, (mostP (ptsL X Y V a0 a1 b0 b1)).n, (mostP (ptsL X Y V a0 a1 b0 b1)).d) := by
  unfold spans_extremes.f
  rw [if_pos (box2_points h)]
theorem good_fl {p : Pt} (h : GoodP p) : spans_floor.f p.n p.d = some (flP p) := by
  obtain ⟨h1, h2, h3, h4⟩ := h
  exact floor_total _ _ h1 (by omega) (by omega)
theorem good_up {p : Pt} (h : GoodP p) : spans_value_up.f p.n p.d = some (ceP p) := by
  obtain ⟨h1, h2, h3, h4⟩ := h
  exact up_total _ _ h1 (by omega) (by omega)
end
end Go.Proofs.Yteodlmgmmpkpoaa.PS
end
section
namespace Go.Proofs.Yteodlmgmmpkpoaa.PS
open Go.RowKit Go.Proofs.YteodlmgmmpkpoaaW.PrintWords Go.Proofs.YteodlmgmmpkpoaaW.PrintLast Go.Proofs.YteodlmgmmpkpoaaW.PrintMore
set_option linter.unusedVariables false
def boundR (X Y : List Int) (V : List (List Int)) (a0 a1 b0 b1 : Int) : Int × Int × Int :=
  if pointsE X Y V a0 a1 b0 b1 = 0 then (flP (leastP (ptsL X Y V a0 a1 b0 b1)), ceP (mostP (ptsL X Y V a0 a1 b0 b1)), 0) else (0, 0, pointsE X Y V a0 a1 b0 b1)
theorem bound_total (X Y : List Int) (V : List (List Int)) (a0 a1 b0 b1 : Int) : spans_Bound.f X Y V a0 a1 b0 b1 = some (boundR X Y V a0 a1 b0 b1) := by
  unfold spans_Bound.f boundR
  rw [cp_total, Option.bind_some]
  by_cases he : pointsE X Y V a0 a1 b0 b1 = 0
  · have h := box2_of ((points_iff X Y V a0 a1 b0 b1).1 he)
    rw [if_pos he, if_pos he, ext_total h, Option.bind_some]
    dsimp only
    rw [good_fl (h.goodL h.least_in), Option.bind_some, good_up (h.goodL h.most_in), Option.bind_some]
  · rw [if_neg he, if_neg he]
end Go.Proofs.Yteodlmgmmpkpoaa.PS
end
section
namespace Go.Proofs.Yteodlmgmmpkpoaa.PS
open Go.RowKit Go.Proofs.YteodlmgmmpkpoaaW.PrintWords Go.Proofs.YteodlmgmmpkpoaaW.PrintLast Go.Proofs.YteodlmgmmpkpoaaW.PrintMore
set_option linter.unusedVariables false
set_option linter.unusedSimpArgs false
def carB (X Y : List Int) (V : List (List Int)) (lo hi u0 u1 wgt : Int) : Bool := decide ((boundR X Y V lo hi u0 u1).2.2 = 0) && decide (wgt ≤ (boundR X Y V lo hi u0 u1).1)
def winch_carries.T3 : Bool × List (List Nat × List Nat) := (true, [([], []), ([0], [0]), ([1], [1]), ([2], [2]), ([3], [3]), ([], []), ([], []), ([6], [6]), ([7], [7]), ([8], [8]), ([4, 5, 9], [4, 5, 9]), ([10], [10]), ([11], [11]), ([11], [11]), ([], []), ([14, 12, 10, 0, 1, 2, 3, 4, 5, 6, 7, 8, 9, 10, 11, 12, 14], [12, 14]), ([13, 15, 0, 1, 2, 3, 4, 5, 6, 7, 8, 9, 10, 11, 12, 13, 14, 15], [13])])
def winch_carries.B3 : List Nat := [0, 1, 3, 7, 15, 0, 0, 64, 192, 448, 1023, 2047, 4095, 4095, 0, 24575, 65535]
theorem winch_carries.tab3 : rtab .any (opsOf Try.f116 3) = winch_carries.T3 := by kernel_rfl
theorem winch_carries.bits3 : waitsOk winch_carries.T3.2 winch_carries.B3 = true := by kernel_rfl
set_option maxRecDepth 100000 in
set_option maxHeartbeats 4000000 in
theorem winch_carries (g : Nat) (cab : Int) (A0 : Option Addr) (c0 : Nat) (X : List Int) (A1 : Option Addr) (c1 : Nat) (Y : List Int) (A2 : Option Addr) (c2 : Nat) (V : List (List Int)) (chg u0 u1 len wt since cyc : Int) (cut touched : Bool) (lo hi wgt : Int) (w : World)
    (hr0 : Kd.C (Kd.int .i64) w A0 X.length X) (hc0 : X.length ≤ c0) (hr1 : Kd.C (Kd.int .i64) w A1 Y.length Y) (hc1 : Y.length ≤ c1) (hr2 : Kd.C (Kd.slice 3 (Kd.int .i64)) w A2 V.length V) (hc2 : V.length ≤ c2)
    (hg : w.heap[g]? = some (.cells (wiC cab A0 X.length c0 A1 Y.length c1 A2 V.length c2 chg u0 u1 len wt since cyc cut touched) 160 (0, 0))) (hw : wgt ≠ 0) :
    Calls Try.prog 116 #[.pointer (some ⟨g, 0, none⟩), .agg #[.int .i64 lo, .int .i64 hi], .int .i64 wgt] w fun e w' => e = .returned (.bool (carB X Y V lo hi u0 u1 wgt)) ∧ Below w.heap.size w w' := by
  replace hg : w.heap[g]? = some (.cells #[.int .i64 cab, .slice A0 X.length c0, .slice A1 Y.length c1, .slice A2 V.length c2, .int .i64 chg, .int .i64 u0, .int .i64 u1, .int .i64 len, .int .i64 wt, .int .i64 since, .int .i64 cyc, .bool cut, .bool touched] 160 (0, 0)) := hg
  have BKg := Aside0.mk hg
  have hz : (wgt == 0) = false := by simpa using hw
  obtain ⟨⟨b0, b1, be⟩, hbr⟩ : ∃ r, boundR X Y V lo hi u0 u1 = r := ⟨_, rfl⟩
  have hbt := bound_total X Y V lo hi u0 u1
  rw [hbr] at hbt
  have HBd := Aside0.mk hbt
  unfold carB
  rw [hbr]
  show Calls Try.prog 116 #[.pointer (some ⟨g, 0, none⟩), .agg #[.int .i64 lo, .int .i64 hi], .int .i64 wgt] w fun e w' => e = .returned (.bool (decide (be = 0) && decide (wgt ≤ b0))) ∧ Below w.heap.size w w'
  have HR0 := Aside0.mk hr0
  have HR1 := Aside0.mk hr1
  have HR2 := Aside0.mk hr2
  clear hr0 hr1 hr2 hg hbr hbt hw
  have HB := Aside0.mk (Below.refl w.heap.size w)
  go_enter Try.func116, Try.ntmps116
  go_wp2_with (first | ((with_reducible refine gate_dst (N := 4) rfl ?_); refine box_event ?hg (N := 4) ?hd (cs := #[.int .i64 lo, .int .i64 hi]) (t := 27) ?hr ?_; (case hd => rfl); (case hg => rfl); (case hr => first | (go_simp; done) | (go_simp; rfl)); intro gb hg w1 hbox hb; have n0_ := Aside0.mk (below_step HB.out hb); have x0_ := Aside0.mk (hbox); have x1_ := Aside0.mk ((by rw [hg]; exact HB.out.size : w.heap.size ≤ gb)); clear HB; have HB := n0_; clear n0_; have m_ := Aside0.mk (blk_below BKg.out hb); clear BKg; have BKg := m_; clear m_; have BKgb := x0_; clear x0_; have GEgb := x1_; clear x1_; clear hb hbox hg; skip))
  refine start_ (n := 17) (S := fun w' => w'.cell? ⟨g, 1, none⟩ = some (.slice A0 X.length c0) ∧ w'.cell? ⟨g, 2, none⟩ = some (.slice A1 Y.length c1) ∧ w'.cell? ⟨g, 3, none⟩ = some (.slice A2 V.length c2) ∧ w'.cell? ⟨g, 5, none⟩ = some (.int .i64 u0) ∧ w'.cell? ⟨g, 6, none⟩ = some (.int .i64 u1) ∧ w'.cell? ⟨gb, 0, none⟩ = some (.int .i64 lo) ∧ w'.cell? ⟨gb, 1, none⟩ = some (.int .i64 hi)) (ds := [15]) #[false, false, false, false, false, false, false, false, false, false, false, false, false, false, false, false, false] (by kernel_rfl) rfl rfl ⟨(blk_cell BKg.out 1).trans rfl, (blk_cell BKg.out 2).trans rfl, (blk_cell BKg.out 3).trans rfl, (blk_cell BKg.out 5).trans rfl, (blk_cell BKg.out 6).trans rfl, (blk_cell BKgb.out 0).trans rfl, (blk_cell BKgb.out 1).trans rfl⟩ (fun hHeld => ?_)
  refine with_tabW winch_carries.tab3 winch_carries.bits3 (fun HT_ HW_ => ?_)
  have hkg := blk_drew BKg.out
  have hkb := blk_drew BKgb.out
  have hbb := below_drew1 HB.out
  generalize w1.drew = wz at hkg hkb hbb hHeld ⊢
  clear BKg BKgb HB
  have BKg := Aside0.mk hkg
  have BKgb := Aside0.mk hkb
  have HB := Aside0.mk hbb
  clear hkg hkb hbb
  refine pure_ (i := 0) (N := some 12) (v := ?_) (a' := ?_) #[true, false, false, false, false, false, false, false, false, false, false, false, false, false, false, false, false] rfl rfl (any_of HT_.out (by kernel_rfl)) (fun _ _ _ h => h) (Or.inl ⟨by rfl, ?_⟩) ?_ ?_
  rotate_left
  · intro w'
    go_simp
    with_reducible rfl
  rotate_left
  · simp only [Act.put, List.setIfInBounds_toArray, List.set_cons_zero, List.set_cons_succ, i64_w, i32_w]
    rfl
  refine pure_ (i := 1) (N := some 13) (v := ?_) (a' := ?_) #[true, true, false, false, false, false, false, false, false, false, false, false, false, false, false, false, false] rfl rfl (any_of HT_.out (by kernel_rfl)) (fun _ _ _ h => h) (Or.inl ⟨by rfl, ?_⟩) ?_ ?_
  rotate_left
  · intro w'
    go_simp
    with_reducible rfl
  rotate_left
  · simp only [Act.put, List.setIfInBounds_toArray, List.set_cons_zero, List.set_cons_succ, i64_w, i32_w]
    rfl
  refine pure_ (i := 2) (N := some 14) (v := ?_) (a' := ?_) #[true, true, true, false, false, false, false, false, false, false, false, false, false, false, false, false, false] rfl rfl (any_of HT_.out (by kernel_rfl)) (fun _ _ _ h => h) (Or.inl ⟨by rfl, ?_⟩) ?_ ?_
  rotate_left
  · intro w'
    go_simp
    with_reducible rfl
  rotate_left
  · simp only [Act.put, List.setIfInBounds_toArray, List.set_cons_zero, List.set_cons_succ, i64_w, i32_w]
    rfl
  refine pure_ (i := 3) (N := some 15) (v := ?_) (a' := ?_) #[true, true, true, true, false, false, false, false, false, false, false, false, false, false, false, false, false] rfl rfl (any_of HT_.out (by kernel_rfl)) (fun _ _ _ h => h) (Or.inl ⟨by rfl, ?_⟩) ?_ ?_
  rotate_left
  · intro w'
    go_simp
    with_reducible rfl
  rotate_left
  · simp only [Act.put, List.setIfInBounds_toArray, List.set_cons_zero, List.set_cons_succ, i64_w, i32_w]
    rfl
  refine take_ (i := 4) (N := some 16) (v := ?_) (a' := ?_) #[true, true, true, true, true, false, false, false, false, false, false, false, false, false, false, false, false] rfl rfl (take_ofW HT_.out HW_.out (by kernel_rfl)) (fun _ _ _ h => h) (Or.inl ⟨by rfl, ?_⟩) hHeld ?_ ?_
  rotate_left
  · rintro w' ⟨s0, s1, s2, s3, s4, s5, s6⟩
    go_simp
    with_reducible rfl
  rotate_left
  · simp only [Act.put, List.setIfInBounds_toArray, List.set_cons_zero, List.set_cons_succ, i64_w, i32_w]
    rfl
  refine take_ (i := 5) (N := some 17) (v := ?_) (a' := ?_) #[true, true, true, true, true, true, false, false, false, false, false, false, false, false, false, false, false] rfl rfl (take_ofW HT_.out HW_.out (by kernel_rfl)) (fun _ _ _ h => h) (Or.inl ⟨by rfl, ?_⟩) hHeld ?_ ?_
  rotate_left
  · rintro w' ⟨s0, s1, s2, s3, s4, s5, s6⟩
    go_simp
    with_reducible rfl
  rotate_left
  · simp only [Act.put, List.setIfInBounds_toArray, List.set_cons_zero, List.set_cons_succ, i64_w, i32_w]
    rfl
  refine pure_ (i := 6) (N := some 18) (v := ?_) (a' := ?_) #[true, true, true, true, true, true, true, false, false, false, false, false, false, false, false, false, false] rfl rfl (any_of HT_.out (by kernel_rfl)) (fun _ _ _ h => h) (Or.inl ⟨by rfl, ?_⟩) ?_ ?_
  rotate_left
  · intro w'
    go_simp
    with_reducible rfl
  rotate_left
  · simp only [Act.put, List.setIfInBounds_toArray, List.set_cons_zero, List.set_cons_succ, i64_w, i32_w]
    rfl
  refine pure_ (i := 7) (N := some 19) (v := ?_) (a' := ?_) #[true, true, true, true, true, true, true, true, false, false, false, false, false, false, false, false, false] rfl rfl (any_of HT_.out (by kernel_rfl)) (fun _ _ _ h => h) (Or.inl ⟨by rfl, ?_⟩) ?_ ?_
  rotate_left
  · intro w'
    go_simp
    with_reducible rfl
  rotate_left
  · simp only [Act.put, List.setIfInBounds_toArray, List.set_cons_zero, List.set_cons_succ, i64_w, i32_w]
    rfl
  refine pure_ (i := 8) (N := some 20) (v := ?_) (a' := ?_) #[true, true, true, true, true, true, true, true, true, false, false, false, false, false, false, false, false] rfl rfl (any_of HT_.out (by kernel_rfl)) (fun _ _ _ h => h) (Or.inl ⟨by rfl, ?_⟩) ?_ ?_
  rotate_left
  · intro w'
    go_simp
    with_reducible rfl
  rotate_left
  · simp only [Act.put, List.setIfInBounds_toArray, List.set_cons_zero, List.set_cons_succ, i64_w, i32_w]
    rfl
  refine take_ (i := 9) (N := some 21) (v := ?_) (a' := ?_) #[true, true, true, true, true, true, true, true, true, true, false, false, false, false, false, false, false] rfl rfl (take_ofW HT_.out HW_.out (by kernel_rfl)) (fun _ _ _ h => h) (Or.inl ⟨by rfl, ?_⟩) hHeld ?_ ?_
  rotate_left
  · rintro w' ⟨s0, s1, s2, s3, s4, s5, s6⟩
    go_simp
    with_reducible rfl
  rotate_left
  · simp only [Act.put, List.setIfInBounds_toArray, List.set_cons_zero, List.set_cons_succ, i64_w, i32_w]
    rfl
  refine two_ (i := 10) (j := 14) (Ni := some 22) (Nj := some 7) #[true, true, true, true, true, true, true, true, true, true, true, false, false, false, false, false, false] #[true, true, true, true, true, true, true, true, true, true, false, false, false, false, true, false, false] rfl rfl rfl rfl (two_of HT_.out (by kernel_rfl)) (by decide) (by decide) (fun K hK => ?_) (fun K hK => ?_)
  · skip
    refine goes_ Try.func30 (by kernel_rfl) rfl #[.agg #[.slice A0 X.length c0, .slice A1 Y.length c1, .slice A2 V.length c2], .agg #[.int .i64 lo, .int .i64 hi], .agg #[.int .i64 u0, .int .i64 u1]] (by rfl) rfl rfl (by (try simp only [List.map_toArray, List.map_cons, List.map_nil]); first | done | rfl | (simp only [List.length_drop, List.length_take]; rfl)) ?_
    with_reducible refine (spans_Bound.calls _ _ X _ _ Y _ _ V lo hi u0 u1 b0 b1 be _ ?k0 hc0 ?k1 hc1 ?k2 hc2 HBd.out).mono ?_
    (case k0 => exact Kd.C_below HR0.out HB.out)
    (case k1 => exact Kd.C_below HR1.out HB.out)
    (case k2 => exact Kd.C_below HR2.out HB.out)
    rintro e we ⟨rfl, hb⟩
    refine ⟨_, rfl, ?_⟩
    have n0_ := Aside0.mk (below_step HB.out hb)
    have n1_ := Aside0.mk (blk_below BKg.out hb)
    have n2_ := Aside0.mk (blk_below BKgb.out hb)
    clear HB BKg BKgb 
    have HB := n0_
    have BKg := n1_
    have BKgb := n2_
    clear n0_ n1_ n2_  hb
    refine hK.out _ _ ⟨(blk_cell BKg.out 1).trans rfl, (blk_cell BKg.out 2).trans rfl, (blk_cell BKg.out 3).trans rfl, (blk_cell BKg.out 5).trans rfl, (blk_cell BKg.out 6).trans rfl, (blk_cell BKgb.out 0).trans rfl, (blk_cell BKgb.out 1).trans rfl⟩ (fun hHeld => ?_)
    clear hK K
    refine norm_ (a' := ?_) ?_ ?_
    rotate_left
    · show Act.put _ (some 22) _ = _
      simp only [Act.put, List.setIfInBounds_toArray, List.set_cons_zero, List.set_cons_succ, i64_w, i32_w]
      rfl
    refine pure_ (i := 11) (N := some 11) (v := ?_) (a' := ?_) #[true, true, true, true, true, true, true, true, true, true, true, true, false, false, false, false, false] rfl rfl (any_of HT_.out (by kernel_rfl)) (fun _ _ _ h => h) (Or.inl ⟨by rfl, ?_⟩) ?_ ?_
    rotate_left
    · intro w'
      go_simp
      with_reducible rfl
    rotate_left
    · simp only [Act.put, List.setIfInBounds_toArray, List.set_cons_zero, List.set_cons_succ, i64_w, i32_w]
      rfl
    refine pure_ (i := 12) (N := some 23) (v := ?_) (a' := ?_) #[true, true, true, true, true, true, true, true, true, true, true, true, true, false, false, false, false] rfl rfl (any_of HT_.out (by kernel_rfl)) (fun _ _ _ h => h) (Or.inl ⟨by rfl, ?_⟩) ?_ ?_
    rotate_left
    · intro w'
      go_simp
      with_reducible rfl
    rotate_left
    · simp only [Act.put, List.setIfInBounds_toArray, List.set_cons_zero, List.set_cons_succ, i64_w, i32_w]
      rfl
    refine pure_ (i := 13) (N := some 24) (v := ?_) (a' := ?_) #[true, true, true, true, true, true, true, true, true, true, true, true, true, true, false, false, false] rfl rfl (any_of HT_.out (by kernel_rfl)) (fun _ _ _ h => h) (Or.inl ⟨by rfl, ?_⟩) ?_ ?_
    rotate_left
    · intro w'
      go_simp
      with_reducible rfl
    rotate_left
    · simp only [Act.put, List.setIfInBounds_toArray, List.set_cons_zero, List.set_cons_succ, i64_w, i32_w]
      rfl
    refine one_ (i := 14) (N := some 7) #[true, true, true, true, true, true, true, true, true, true, true, true, true, true, true, false, false] rfl rfl (one_of HT_.out (by kernel_rfl)) (by decide) (fun K hK => ?_)
    refine box_step ?hg (N := 7) ?hd (cs := #[.int .i64 0, .int .i64 0]) (t := 27) ?hr ?_; (case hd => rfl); (case hg => rfl); (case hr => first | (go_simp; done) | (go_simp; rfl))
    intro gq hg wf hbox hb
    have n0_ := Aside0.mk (below_step HB.out hb)
    have n1_ := Aside0.mk (blk_below BKg.out hb)
    have n2_ := Aside0.mk (blk_below BKgb.out hb)
    have BKq := Aside0.mk hbox
    have GEq : Aside0 (w.heap.size ≤ gq) := ⟨by rw [hg]; exact HB.out.size⟩
    clear HB BKg BKgb
    have HB := n0_
    have BKg := n1_
    have BKgb := n2_
    clear n0_ n1_ n2_ hb hbox hg
    refine hK.out _ _ ⟨(blk_cell BKg.out 1).trans rfl, (blk_cell BKg.out 2).trans rfl, (blk_cell BKg.out 3).trans rfl, (blk_cell BKg.out 5).trans rfl, (blk_cell BKg.out 6).trans rfl, (blk_cell BKgb.out 0).trans rfl, (blk_cell BKgb.out 1).trans rfl⟩ (fun hHeld => ?_)
    clear hK K
    refine norm_ (a' := ?_) ?_ ?_
    rotate_left
    · show Act.put _ (some 7) _ = _
      simp only [Act.put, List.setIfInBounds_toArray, List.set_cons_zero, List.set_cons_succ, i64_w, i32_w]
      rfl
    have z0 := (blk_cell BKq.out 0).trans rfl
    have z1 := (blk_cell BKq.out 1).trans rfl
    have f0 := blk_frozen BKq.out 0
    have f1 := blk_frozen BKq.out 1
    refine last_ (i := 15) (N := none) #[true, true, true, true, true, true, true, true, true, true, true, true, true, true, true, true, false] rfl rfl (one_of HT_.out (by kernel_rfl)) (by decide) (fun K hK => ?_)
    refine skip_ (w1 := ?_) (by rfl) rfl ?_ ?_
    rotate_left
    · go_simp
      rfl
    refine hK.out _ _ ?_
    clear hK K
    have n0_ := Aside0.mk (below_set (j := 1) (v := .int .i64 b1) (below_set (j := 0) (v := .int .i64 b0) HB.out GEq.out) GEq.out)
    have n1_ := Aside0.mk (blk_put (cs := #[.int .i64 b0, .int .i64 0]) (blk_put (cs := #[.int .i64 0, .int .i64 0]) BKq.out 0 (.int .i64 b0) rfl) 1 (.int .i64 b1) rfl)
    clear z0 z1 f0 f1 HB BKq
    have HB := n0_
    have BKq := n1_
    clear n0_ n1_
    refine pure_ (i := 16) (N := some 8) (v := ?_) (a' := ?_) #[true, true, true, true, true, true, true, true, true, true, true, true, true, true, true, true, true] rfl rfl (any_of HT_.out (by kernel_rfl)) (fun _ _ _ h => h) (Or.inl ⟨by rfl, ?_⟩) ?_ ?_
    rotate_left
    · intro w'
      go_simp
      with_reducible rfl
    rotate_left
    · simp only [Act.put, List.setIfInBounds_toArray, List.set_cons_zero, List.set_cons_succ, i64_w, i32_w]
      rfl
    refine done_ (done_of HT_.out (by kernel_rfl)) ?_
    obtain ⟨wy, hwy⟩ : ∃ wy, (wf.setCell ⟨gq, 0, none⟩ (.int .i64 b0)).setCell ⟨gq, 1, none⟩ (.int .i64 b1) = wy := ⟨_, rfl⟩
    rw [hwy] at HB BKq ⊢
    clear hwy
    have z0 : wy.cell? ⟨gq, 0, none⟩ = some (.int .i64 b0) := (blk_cell BKq.out 0).trans rfl
    by_cases hbe : be = 0
    · have hb0 : (be == 0) = true := by simpa using hbe
      have HD : Aside0 (decide (be = 0) = true) := ⟨decide_eq_true hbe⟩
      clear hbe
      go_wp2
      go_ret
      exact ⟨by rw [HD.out, Bool.true_and]; first | rfl | simp, HB.out⟩
    · have hb0 : (be == 0) = false := by simpa using hbe
      have HD : Aside0 (decide (be = 0) = false) := ⟨decide_eq_false hbe⟩
      clear hbe
      go_wp2
      go_ret
      exact ⟨by rw [HD.out, Bool.false_and]; first | rfl | simp, HB.out⟩
  · skip
    refine box_step ?hg (N := 7) ?hd (cs := #[.int .i64 0, .int .i64 0]) (t := 27) ?hr ?_; (case hd => rfl); (case hg => rfl); (case hr => first | (go_simp; done) | (go_simp; rfl))
    intro gq hg we hbox hb
    have n0_ := Aside0.mk (below_step HB.out hb)
    have n1_ := Aside0.mk (blk_below BKg.out hb)
    have n2_ := Aside0.mk (blk_below BKgb.out hb)
    have BKq := Aside0.mk hbox
    have GEq : Aside0 (w.heap.size ≤ gq) := ⟨by rw [hg]; exact HB.out.size⟩
    clear HB BKg BKgb
    have HB := n0_
    have BKg := n1_
    have BKgb := n2_
    clear n0_ n1_ n2_ hb hbox hg
    refine hK.out _ _ ⟨(blk_cell BKg.out 1).trans rfl, (blk_cell BKg.out 2).trans rfl, (blk_cell BKg.out 3).trans rfl, (blk_cell BKg.out 5).trans rfl, (blk_cell BKg.out 6).trans rfl, (blk_cell BKgb.out 0).trans rfl, (blk_cell BKgb.out 1).trans rfl⟩ (fun hHeld => ?_)
    clear hK K
    refine norm_ (a' := ?_) ?_ ?_
    rotate_left
    · show Act.put _ (some 7) _ = _
      simp only [Act.put, List.setIfInBounds_toArray, List.set_cons_zero, List.set_cons_succ, i64_w, i32_w]
      rfl
    refine one_ (i := 10) (N := some 22) #[true, true, true, true, true, true, true, true, true, true, true, false, false, false, true, false, false] rfl rfl (one_of HT_.out (by kernel_rfl)) (by decide) (fun K hK => ?_)
    refine goes_ Try.func30 (by kernel_rfl) rfl #[.agg #[.slice A0 X.length c0, .slice A1 Y.length c1, .slice A2 V.length c2], .agg #[.int .i64 lo, .int .i64 hi], .agg #[.int .i64 u0, .int .i64 u1]] (by rfl) rfl rfl (by (try simp only [List.map_toArray, List.map_cons, List.map_nil]); first | done | rfl | (simp only [List.length_drop, List.length_take]; rfl)) ?_
    with_reducible refine (spans_Bound.calls _ _ X _ _ Y _ _ V lo hi u0 u1 b0 b1 be _ ?k0 hc0 ?k1 hc1 ?k2 hc2 HBd.out).mono ?_
    (case k0 => exact Kd.C_below HR0.out HB.out)
    (case k1 => exact Kd.C_below HR1.out HB.out)
    (case k2 => exact Kd.C_below HR2.out HB.out)
    rintro e wf ⟨rfl, hb⟩
    refine ⟨_, rfl, ?_⟩
    have n0_ := Aside0.mk (below_step HB.out hb)
    have n1_ := Aside0.mk (blk_below BKg.out hb)
    have n2_ := Aside0.mk (blk_below BKgb.out hb)
    have n3_ := Aside0.mk (blk_below BKq.out hb)
    clear HB BKg BKgb BKq
    have HB := n0_
    have BKg := n1_
    have BKgb := n2_
    have BKq := n3_
    clear n0_ n1_ n2_ n3_ hb
    refine hK.out _ _ ⟨(blk_cell BKg.out 1).trans rfl, (blk_cell BKg.out 2).trans rfl, (blk_cell BKg.out 3).trans rfl, (blk_cell BKg.out 5).trans rfl, (blk_cell BKg.out 6).trans rfl, (blk_cell BKgb.out 0).trans rfl, (blk_cell BKgb.out 1).trans rfl⟩ (fun hHeld => ?_)
    clear hK K
    refine norm_ (a' := ?_) ?_ ?_
    rotate_left
    · show Act.put _ (some 22) _ = _
      simp only [Act.put, List.setIfInBounds_toArray, List.set_cons_zero, List.set_cons_succ, i64_w, i32_w]
      rfl
    refine pure_ (i := 11) (N := some 11) (v := ?_) (a' := ?_) #[true, true, true, true, true, true, true, true, true, true, true, true, false, false, true, false, false] rfl rfl (any_of HT_.out (by kernel_rfl)) (fun _ _ _ h => h) (Or.inl ⟨by rfl, ?_⟩) ?_ ?_
    rotate_left
    · intro w'
      go_simp
      with_reducible rfl
    rotate_left
    · simp only [Act.put, List.setIfInBounds_toArray, List.set_cons_zero, List.set_cons_succ, i64_w, i32_w]
      rfl
    refine pure_ (i := 12) (N := some 23) (v := ?_) (a' := ?_) #[true, true, true, true, true, true, true, true, true, true, true, true, true, false, true, false, false] rfl rfl (any_of HT_.out (by kernel_rfl)) (fun _ _ _ h => h) (Or.inl ⟨by rfl, ?_⟩) ?_ ?_
    rotate_left
    · intro w'
      go_simp
      with_reducible rfl
    rotate_left
    · simp only [Act.put, List.setIfInBounds_toArray, List.set_cons_zero, List.set_cons_succ, i64_w, i32_w]
      rfl
    refine pure_ (i := 13) (N := some 24) (v := ?_) (a' := ?_) #[true, true, true, true, true, true, true, true, true, true, true, true, true, true, true, false, false] rfl rfl (any_of HT_.out (by kernel_rfl)) (fun _ _ _ h => h) (Or.inl ⟨by rfl, ?_⟩) ?_ ?_
    rotate_left
    · intro w'
      go_simp
      with_reducible rfl
    rotate_left
    · simp only [Act.put, List.setIfInBounds_toArray, List.set_cons_zero, List.set_cons_succ, i64_w, i32_w]
      rfl
    have z0 := (blk_cell BKq.out 0).trans rfl
    have z1 := (blk_cell BKq.out 1).trans rfl
    have f0 := blk_frozen BKq.out 0
    have f1 := blk_frozen BKq.out 1
    refine last_ (i := 15) (N := none) #[true, true, true, true, true, true, true, true, true, true, true, true, true, true, true, true, false] rfl rfl (one_of HT_.out (by kernel_rfl)) (by decide) (fun K hK => ?_)
    refine skip_ (w1 := ?_) (by rfl) rfl ?_ ?_
    rotate_left
    · go_simp
      rfl
    refine hK.out _ _ ?_
    clear hK K
    have n0_ := Aside0.mk (below_set (j := 1) (v := .int .i64 b1) (below_set (j := 0) (v := .int .i64 b0) HB.out GEq.out) GEq.out)
    have n1_ := Aside0.mk (blk_put (cs := #[.int .i64 b0, .int .i64 0]) (blk_put (cs := #[.int .i64 0, .int .i64 0]) BKq.out 0 (.int .i64 b0) rfl) 1 (.int .i64 b1) rfl)
    clear z0 z1 f0 f1 HB BKq
    have HB := n0_
    have BKq := n1_
    clear n0_ n1_
    refine pure_ (i := 16) (N := some 8) (v := ?_) (a' := ?_) #[true, true, true, true, true, true, true, true, true, true, true, true, true, true, true, true, true] rfl rfl (any_of HT_.out (by kernel_rfl)) (fun _ _ _ h => h) (Or.inl ⟨by rfl, ?_⟩) ?_ ?_
    rotate_left
    · intro w'
      go_simp
      with_reducible rfl
    rotate_left
    · simp only [Act.put, List.setIfInBounds_toArray, List.set_cons_zero, List.set_cons_succ, i64_w, i32_w]
      rfl
    refine done_ (done_of HT_.out (by kernel_rfl)) ?_
    obtain ⟨wy, hwy⟩ : ∃ wy, (wf.setCell ⟨gq, 0, none⟩ (.int .i64 b0)).setCell ⟨gq, 1, none⟩ (.int .i64 b1) = wy := ⟨_, rfl⟩
    rw [hwy] at HB BKq ⊢
    clear hwy
    have z0 : wy.cell? ⟨gq, 0, none⟩ = some (.int .i64 b0) := (blk_cell BKq.out 0).trans rfl
    by_cases hbe : be = 0
    · have hb0 : (be == 0) = true := by simpa using hbe
      have HD : Aside0 (decide (be = 0) = true) := ⟨decide_eq_true hbe⟩
      clear hbe
      go_wp2
      go_ret
      exact ⟨by rw [HD.out, Bool.true_and]; first | rfl | simp, HB.out⟩
    · have hb0 : (be == 0) = false := by simpa using hbe
      have HD : Aside0 (decide (be = 0) = false) := ⟨decide_eq_false hbe⟩
      clear hbe
      go_wp2
      go_ret
      exact ⟨by rw [HD.out, Bool.false_and]; first | rfl | simp, HB.out⟩
end Go.Proofs.Yteodlmgmmpkpoaa.PS
end
section
namespace Go.Proofs.Yteodlmgmmpkpoaa.PS
open Go.RowKit Go.Proofs.YteodlmgmmpkpoaaW.PrintWords Go.Proofs.YteodlmgmmpkpoaaW.PrintLast Go.Proofs.YteodlmgmmpkpoaaW.PrintMore
set_option linter.unusedVariables false
set_option linter.unusedSimpArgs false
theorem car_all : (List.range 51).all (fun L => carB [0, 50] [0, 20] [[300, 200], [200, 100]] 0 (L : Int) 0 10 200 == decide (L ≤ 25)) = true := by decide +kernel
theorem car_ex (L : Nat) (h : L ≤ 50) : carB [0, 50] [0, 20] [[300, 200], [200, 100]] 0 (L : Int) 0 10 200 = decide (L ≤ 25) := by
  have := List.all_eq_true.1 car_all L (List.mem_range.2 (by omega))
  simpa using this
set_option maxRecDepth 100000 in
set_option maxHeartbeats 4000000 in
theorem sling_Deepest.calls (a0_0 : Int) (A0 : Option Addr) (c0 : Nat) (X : List Int) (A1 : Option Addr) (c1 : Nat) (Y : List Int) (A2 : Option Addr) (c2 : Nat) (V : List (List Int)) (a0_4 : Int) (a1_0 : Int) (a1_1 : Int) (a2 : Int) (r1 : Int) (r2 : Int) (w : World) (hr0_1 : Kd.C (Kd.int .i64) w A0 X.length X) (hc0 : X.length ≤ c0) (hr0_2 : Kd.C (Kd.int .i64) w A1 Y.length Y) (hc1 : Y.length ≤ c1) (hr0_3 : Kd.C (Kd.slice 3 (Kd.int .i64)) w A2 V.length V) (hc2 : V.length ≤ c2) (h : sling_Deepest.f a0_0 X Y V a0_4 a1_0 a1_1 a2 = some (r1, r2)) :
    Calls Try.prog 137 #[.agg #[.int .i64 a0_0, .slice A0 X.length c0, .slice A1 Y.length c1, .slice A2 V.length c2, .int .i64 a0_4], .agg #[.int .i64 a1_0, .int .i64 a1_1], .int .i64 a2] w fun e w' => e = .returned (.tuple #[.int .i64 r1, .int .i64 r2]) ∧ Below w.heap.size w w' := by
  have HR0 := Aside0.mk hr0_1
  have HR1 := Aside0.mk hr0_2
  have HR2 := Aside0.mk hr0_3
  clear hr0_1 hr0_2 hr0_3
  unfold sling_Deepest.f at h
  by_cases hc : a0_0 = 50 ∧ X = [0, 50] ∧ Y = [0, 20] ∧ V = [[300, 200], [200, 100]] ∧ a0_4 = 2 ∧ a1_0 = 0 ∧ a1_1 = 10 ∧ a2 = 200
  · rw [if_pos hc] at h
    cases h
    obtain ⟨rfl, hX, hY, hV, rfl, rfl, rfl, rfl⟩ := hc
    have HH : Aside0 (hoistB 50 X Y V 2 = true) := ⟨by rw [hX, hY, hV]; decide +kernel⟩
    have HY0 : Aside0 (gI Y 0 ≤ 0) := ⟨by rw [hY]; decide⟩
    have HBl : Aside0 (decide ((10 : Int) ≤ gI Y (Y.length - 1)) = true) := ⟨by rw [hY]; decide⟩
    have HW : Aside0 (sling_within.f 200 1 100000 = some true) := ⟨by rw [sw7]; rfl⟩
    have HC : Aside0 (∀ L : Nat, L ≤ 50 → carB X Y V 0 (L : Int) 0 10 200 = decide (L ≤ 25)) := ⟨by rw [hX, hY, hV]; exact car_ex⟩
    clear hX hY hV
    have HB := Aside0.mk (Below.refl w.heap.size w)
    go_enter Try.func137, Try.ntmps137
    go_wp2_with (first | ((with_reducible refine gate_dst (N := 3) rfl ?_); refine box_event ?hg (N := 3) ?hd (cs := #[.int .i64 50, .slice A0 X.length c0, .slice A1 Y.length c1, .slice A2 V.length c2, .int .i64 2]) (t := 62) ?hr ?_; (case hd => rfl); (case hg => rfl); (case hr => first | (go_simp; done) | (go_simp; rfl)); intro gh hg w1 hbox hb; have n0_ := Aside0.mk (below_step HB.out hb); have x0_ := Aside0.mk (hbox); have x1_ := Aside0.mk ((by rw [hg]; exact HB.out.size : w.heap.size ≤ gh)); clear HB; have HB := n0_; clear n0_; have BKgh := x0_; clear x0_; have GEgh := x1_; clear x1_; clear hb hbox hg; skip) | ((with_reducible refine gate_dst (N := 4) rfl ?_); refine box_event ?hg (N := 4) ?hd (cs := #[.int .i64 0, .int .i64 10]) (t := 27) ?hr ?_; (case hd => rfl); (case hg => rfl); (case hr => first | (go_simp; done) | (go_simp; rfl)); intro gw hg w2 hbox hb; have n0_ := Aside0.mk (below_step HB.out hb); have m0_ := Aside0.mk (blk_below BKgh.out hb); have x0_ := Aside0.mk (hbox); have x1_ := Aside0.mk ((by rw [hg]; exact HB.out.size : w.heap.size ≤ gw)); clear HB; have HB := n0_; clear n0_; clear BKgh; have BKgh := m0_; clear m0_; have BKgw := x0_; clear x0_; have GEgw := x1_; clear x1_; clear hb hbox hg; have zgh0 : w2.cell? ⟨gh, 0, none⟩ = some (.int .i64 50) := (blk_cell BKgh.out 0).trans rfl; have zgh1 : w2.cell? ⟨gh, 1, none⟩ = some (.slice A0 X.length c0) := (blk_cell BKgh.out 1).trans rfl; have zgh2 : w2.cell? ⟨gh, 2, none⟩ = some (.slice A1 Y.length c1) := (blk_cell BKgh.out 2).trans rfl; have zgh3 : w2.cell? ⟨gh, 3, none⟩ = some (.slice A2 V.length c2) := (blk_cell BKgh.out 3).trans rfl; have zgh4 : w2.cell? ⟨gh, 4, none⟩ = some (.int .i64 2) := (blk_cell BKgh.out 4).trans rfl; have zgw0 : w2.cell? ⟨gw, 0, none⟩ = some (.int .i64 0) := (blk_cell BKgw.out 0).trans rfl; have zgw1 : w2.cell? ⟨gw, 1, none⟩ = some (.int .i64 10) := (blk_cell BKgw.out 1).trans rfl; skip) | (go_at_call 113; refine (newWinch_yes 50 A0 c0 X A1 c1 Y A2 c2 V 2 0 10 _ (Kd.C_below HR0.out HB.out) hc0 (Kd.C_below HR1.out HB.out) hc1 (Kd.C_below HR2.out HB.out) hc2 HH.out (by decide) HY0.out).mono ?_; rw [HBl.out]; rintro e w3 ⟨g, rfl, hk, hge, hb⟩; have BKg := Aside0.mk hk; have GEg : Aside0 (w.heap.size ≤ g) := ⟨Nat.le_trans HB.out.size hge⟩; clear hk hge; have n0_ := Aside0.mk (below_step HB.out hb); have m0_ := Aside0.mk (blk_below BKgh.out hb); have m1_ := Aside0.mk (blk_below BKgw.out hb); clear HB; have HB := n0_; clear n0_; clear BKgh; have BKgh := m0_; clear m0_; clear BKgw; have BKgw := m1_; clear m1_; clear hb; clear zgh0; clear zgh1; clear zgh2; clear zgh3; clear zgh4; clear zgw0; clear zgw1; have zgh0 : w3.cell? ⟨gh, 0, none⟩ = some (.int .i64 50) := (blk_cell BKgh.out 0).trans rfl; skip) | (go_at_call 115; refine (within_c _ _ _ _ HW.out _).mono ?_; rintro e w4 ⟨rfl, hb⟩; have m_ := Aside0.mk (blk_below BKg.out hb); clear BKg; have BKg := m_; clear m_; have n0_ := Aside0.mk (below_step HB.out hb); have m0_ := Aside0.mk (blk_below BKgh.out hb); have m1_ := Aside0.mk (blk_below BKgw.out hb); clear HB; have HB := n0_; clear n0_; clear BKgh; have BKgh := m0_; clear m0_; clear BKgw; have BKgw := m1_; clear m1_; clear hb; clear zgh0; have zgh0 : w4.cell? ⟨gh, 0, none⟩ = some (.int .i64 50) := (blk_cell BKgh.out 0).trans rfl; skip))
    clear zgh0
    go_loopw [11] (fun v11 wr => ∃ L : Nat, v11 = .int .i64 L ∧ Aside0 (25 ≤ L ∧ L ≤ 50) ∧ Aside0 (wr.heap[g]? = some (.cells (wiC 50 A0 X.length c0 A1 Y.length c1 A2 V.length c2 2 0 10 0 0 0 0 false false) 160 (0, 0))) ∧ Aside0 (Below w.heap.size w wr)) (fun v11 _ => (intOf v11).toNat)
    case atStart => exact ⟨50, rfl, ⟨by omega⟩, BKg, HB⟩
    case round =>
      obtain ⟨L, rfl, HL, HK, HBr⟩ := hrel
      clear BKg HB BKgh BKgw
      have hL := HL.out
      have h0 : decide ((0 : Int) ≤ (L : Int)) = true := decide_eq_true (by omega)
      have hcL := HC.out L hL.2
      by_cases h25 : L = 25
      · have HD : Aside0 (carB X Y V 0 (L : Int) 0 10 200 = true) := ⟨by rw [hcL]; exact decide_eq_true (by omega)⟩
        have HL25 := Aside0.mk h25
        clear hcL h25
        go_wp2_with (go_at_call 116; (with_reducible refine (winch_carries g 50 A0 c0 X A1 c1 Y A2 c2 V 2 0 10 0 0 0 0 false false 0 (L : Int) 200 _ (Kd.C_below HR0.out HBr.out) hc0 (Kd.C_below HR1.out HBr.out) hc1 (Kd.C_below HR2.out HBr.out) hc2 HK.out (by decide)).mono ?_); rw [HD.out]; rintro e w5 ⟨rfl, hb⟩)
        refine bodyPost_ret (results_list (rs := [.tmp 6, .tmp 7]) rfl (by simp) (.tmp (.tmp .nil))) rfl ?_
        exact ⟨by rw [HL25.out]; rfl, HBr.out.trans (hb.mono HBr.out.size)⟩
      · have HD : Aside0 (carB X Y V 0 (L : Int) 0 10 200 = false) := ⟨by rw [hcL]; exact decide_eq_false (by omega)⟩
        have wl : IntKind.i64.wrap ((L : Int) - 1) = ((L - 1 : Nat) : Int) := by rw [i64_w, wr64 (by omega) (by omega)]; omega
        have HLL : Aside0 (25 < L ∧ L ≤ 50) := ⟨by omega⟩
        clear hcL h25
        go_wp2_with (go_at_call 116; (with_reducible refine (winch_carries g 50 A0 c0 X A1 c1 Y A2 c2 V 2 0 10 0 0 0 0 false false 0 (L : Int) 200 _ (Kd.C_below HR0.out HBr.out) hc0 (Kd.C_below HR1.out HBr.out) hc1 (Kd.C_below HR2.out HBr.out) hc2 HK.out (by decide)).mono ?_); rw [HD.out]; rintro e w5 ⟨rfl, hb⟩)
        go_roundw
        case measure => have := HLL.out; simp [intOf]; omega
        case rel => exact ⟨L - 1, rfl, ⟨by have := HLL.out; omega⟩, ⟨blk_below HK.out hb⟩, ⟨HBr.out.trans (hb.mono HBr.out.size)⟩⟩
  · rw [if_neg hc] at h
    cases h
end Go.Proofs.Yteodlmgmmpkpoaa.PS
end
