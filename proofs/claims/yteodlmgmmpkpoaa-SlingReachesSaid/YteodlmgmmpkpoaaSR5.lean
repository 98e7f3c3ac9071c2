-- Printed by a program of this session out of the translation (hybrid print) and out of hand proofs. Not trusted: Lean checks it.
import Derived.Below
import Derived.Deep.Draws
import Derived.Deep.AppendLies
import Derived.Maps.AppendAt
import Derived.OwnWalk
import Derived.Laws.BytesArg
import Derived.Laws.MakeOwn
import Derived.Laws.OwnMore
import Derived.Deep.OwnRows
import Derived.Tactics
import Derived.Lib.ConvBytes
import Derived.Laws.Slices
import Derived.WalkKit
import Derived.KernelRfl
import Derived.RowKit3
import Derived.Deep.LoopGhost
import Derived.Deep.QuietTactic
import Derived.BigQuiet
import Derived.WideLaws
import Derived.Deep.DeepCutAuto
import Derived.Deep.CutBlock
import Derived.Deep.RegionHeld3
import Derived.Laws.Rows
import Derived.Lib.AppendStr
import Derived.ArgAppend
import Derived.Laws.IdiomCopy
import Derived.RowKit
import Derived.OrdersHeld
import Derived.Laws.BitsLemmas
import Derived.Laws.StructEq
import Derived.Test.YteodlmgmmpkpoaaProg
import Derived.Laws.EntriesVeiled
import Derived.StillTailTactics
import Derived.RangeFuncNested
import Derived.RangeFuncBound
import Derived.RangeFuncCalls
import Derived.RangeFuncLeaves
import Derived.Shelf.Abstract
import Derived.OwnWalkIn
import Derived.TacticsInMore
import Derived.LoopNIn
import Derived.LoopIn
import Derived.RegionIn
import Derived.Deep.Strs
import Derived.Deep.Slices
import Derived.OpenShut
import Derived.ProofKit
import Derived.Carry
import Derived.Test.YteodlmgmmpkpoaaRows
import Derived.Lib.SmallJoins
import Derived.Test.YteodlmgmmpkpoaaSR4
section
namespace Go.Proofs.Yteodlmgmmpkpoaa.PS
open Go.RowKit Go.Proofs.YteodlmgmmpkpoaaW.PrintWords Go.Proofs.YteodlmgmmpkpoaaW.PrintLast Go.Proofs.YteodlmgmmpkpoaaW.PrintMore
attribute [local go_sem] max2_int min2_int max_two min_two max_three min_three max_four min_four   -- for this text's walks alone
set_option linter.unusedVariables false
set_option linter.unusedSimpArgs false
attribute [local go_sem high] eqA28
mutual
def swashplatelaw07_SlingReaches.j0 : Nat → Bool → Int → Int → Int → List (S27) → Int → Int → Int → Int → Int → Option (Bool)
 | 0, _, _, _, _, _, _, _, _, _, _ => none
 | k + 1, x54, x408000, x408001, x408002, x409000, x409001, x409002, x409003, x409004, x409005 => if x54 = true then (some false) else (swashplatelaw07_SlingReaches.l0 k 0 x408000 x408001 x408002 x409000 x409001 x409002 x409003 x409004 x409005)
def swashplatelaw07_SlingReaches.l0 : Nat → Int → Int → Int → Int → List (S27) → Int → Int → Int → Int → Int → Option (Bool)
 | 0, _, _, _, _, _, _, _, _, _, _ => none
 | k + 1, x11, x408000, x408001, x408002, x409000, x409001, x409002, x409003, x409004, x409005 => if x11 < 2 then ((sling_Witness.f x408000 x408001 x408002 x409000 x409001 x409002 x409005 (x11 == 1)).bind fun bt424 => ((swashplateref07_Witness.f k x408000 x408001 x408002 x409000 x409001 x409002 x409005 (x11 == 1)).bind fun bt431 => (if (!(bt424.1 == bt431.1) || (!(bt424.2.1 == bt431.2.1))) = true then (some false) else (if bt424.2.2.2 = bt431.2.2.2 then ((swashplatelaw07_sameInts.f k bt424.2.2.1 bt431.2.2.1).bind fun t438 => (if t438 = true then (swashplatelaw07_SlingReaches.l0 k (wrap64 (x11 + 1)) x408000 x408001 x408002 x409000 x409001 x409002 x409003 x409004 x409005) else (some false))) else (some false))))) else ((swashplatelaw07_works.f k).bind fun t423 => (some t423))
end
def swashplatelaw07_SlingReaches.f (k : Nat) (a0_0 : Int) (a0_1 : Int) (a0_2 : Int) (l1_0 : List (S27)) (a1_1 : Int) (a1_2 : Int) (a1_3 : Int) (a1_4 : Int) (a1_5 : Int) : Option (Bool) := (sling_Reach.f k a0_0 a0_1 a0_2 l1_0 a1_1 a1_2 a1_5).bind fun bt409 => ((swashplateref07_Reach.f k a0_0 a0_1 a0_2 l1_0 a1_1 a1_2 a1_5).bind fun bt416 => (if (!(bt409.1 == bt416.1) || (!(bt409.2.1 == bt416.2.1))) = true then (swashplatelaw07_SlingReaches.j0 k true a0_0 a0_1 a0_2 l1_0 a1_1 a1_2 a1_3 a1_4 a1_5) else (if (!(bt409.2.2.1 == bt416.2.2.1) || (!(bt409.2.2.2.1 == bt416.2.2.2.1))) = true then (swashplatelaw07_SlingReaches.j0 k true a0_0 a0_1 a0_2 l1_0 a1_1 a1_2 a1_3 a1_4 a1_5) else (swashplatelaw07_SlingReaches.j0 k (bt409.2.2.2.2 != bt416.2.2.2.2) a0_0 a0_1 a0_2 l1_0 a1_1 a1_2 a1_3 a1_4 a1_5))))
set_option maxHeartbeats 8000000 in
set_option maxRecDepth 100000 in
theorem swashplatelaw07_SlingReaches.calls (k : Nat) (a0_0 : Int) (a0_1 : Int) (a0_2 : Int) (A1_0 : Option Addr) (c1_0 : Nat) (l1_0 : List (S27)) (a1_1 : Int) (a1_2 : Int) (a1_3 : Int) (a1_4 : Int) (a1_5 : Int) (r : Bool) (w : World) (hr1_0 : Kd.C k27 w A1_0 l1_0.length l1_0) (hc1_0 : l1_0.length ≤ c1_0) (h : swashplatelaw07_SlingReaches.f k a0_0 a0_1 a0_2 l1_0 a1_1 a1_2 a1_3 a1_4 a1_5 = some r) :
  Calls Try.prog 19 #[.agg #[.int .i64 a0_0, .int .i64 a0_1, .int .i64 a0_2], .agg #[.slice A1_0 l1_0.length c1_0, .int .i64 a1_1, .int .i64 a1_2, .int .i64 a1_3, .int .i64 a1_4, .int .i64 a1_5]] w fun e w' => e = .returned (.bool r) ∧ Below w.heap.size w w' := by
 have hu105 := Try.underlying105
 have hu122 := Try.underlying122
 have hu27 := Try.underlying27
 have hu28 := Try.underlying28
 have HR1_0 := Aside0.mk hr1_0
 have HC1_0 := Aside0.mk hc1_0
 clear hr1_0 hc1_0
 have HB := Aside0.mk (Below.refl w.heap.size w)
 have H : ((sling_Reach.f k a0_0 a0_1 a0_2 l1_0 a1_1 a1_2 a1_5).bind fun bt409 => ((swashplateref07_Reach.f k a0_0 a0_1 a0_2 l1_0 a1_1 a1_2 a1_5).bind fun bt416 => (if (!(bt409.1 == bt416.1) || (!(bt409.2.1 == bt416.2.1))) = true then (swashplatelaw07_SlingReaches.j0 k true a0_0 a0_1 a0_2 l1_0 a1_1 a1_2 a1_3 a1_4 a1_5) else (if (!(bt409.2.2.1 == bt416.2.2.1) || (!(bt409.2.2.2.1 == bt416.2.2.2.1))) = true then (swashplatelaw07_SlingReaches.j0 k true a0_0 a0_1 a0_2 l1_0 a1_1 a1_2 a1_3 a1_4 a1_5) else (swashplatelaw07_SlingReaches.j0 k (bt409.2.2.2.2 != bt416.2.2.2.2) a0_0 a0_1 a0_2 l1_0 a1_1 a1_2 a1_3 a1_4 a1_5))))) = some r := h
 clear h
 replace H := Option.bind_eq_some_iff.mp H
 obtain ⟨⟨t409, t410, t411, t412, t413⟩, A30, H⟩ := H
 replace H : ((swashplateref07_Reach.f k a0_0 a0_1 a0_2 l1_0 a1_1 a1_2 a1_5).bind fun bt416 => (if (!(t409 == bt416.1) || (!(t410 == bt416.2.1))) = true then (swashplatelaw07_SlingReaches.j0 k true a0_0 a0_1 a0_2 l1_0 a1_1 a1_2 a1_3 a1_4 a1_5) else (if (!(t411 == bt416.2.2.1) || (!(t412 == bt416.2.2.2.1))) = true then (swashplatelaw07_SlingReaches.j0 k true a0_0 a0_1 a0_2 l1_0 a1_1 a1_2 a1_3 a1_4 a1_5) else (swashplatelaw07_SlingReaches.j0 k (t413 != bt416.2.2.2.2) a0_0 a0_1 a0_2 l1_0 a1_1 a1_2 a1_3 a1_4 a1_5)))) = some r := H
 have A3 := Aside0.mk A30
 clear A30
 replace H := Option.bind_eq_some_iff.mp H
 obtain ⟨⟨t416, t417, t418, t419, t420⟩, A40, H⟩ := H
 replace H : (if (!(t409 == t416) || (!(t410 == t417))) = true then (swashplatelaw07_SlingReaches.j0 k true a0_0 a0_1 a0_2 l1_0 a1_1 a1_2 a1_3 a1_4 a1_5) else (if (!(t411 == t418) || (!(t412 == t419))) = true then (swashplatelaw07_SlingReaches.j0 k true a0_0 a0_1 a0_2 l1_0 a1_1 a1_2 a1_3 a1_4 a1_5) else (swashplatelaw07_SlingReaches.j0 k (t413 != t420) a0_0 a0_1 a0_2 l1_0 a1_1 a1_2 a1_3 a1_4 a1_5))) = some r := H
 have A4 := Aside0.mk A40
 clear A40
 have HC5 := Aside0.mk H
 clear H
 go_enter Try.func19, Try.ntmps19
 go_upto_region 3 with (first | ((with_reducible refine gate_dst (N := 2) rfl ?_); refine box_event ?hg (N := 2) ?hd (cs := #[.int .i64 a0_0, .int .i64 a0_1, .int .i64 a0_2]) (t := 105) ?hr ?_; (case hd => rfl); (case hg => rfl); (case hr => first | (go_simp; done) | (go_simp; rfl)); intro gb407 hg w6 hbox hb; have n0_ := Aside0.mk (below_step (bl_ HB.out) hb); have n1_ := Aside0.mk (hbox); have n2_ := Aside0.mk (szl_ hg HB.out); have n3_ := Aside0.mk (szl_ hg HB.out); clear HB; have HB := n0_; have BK407 := n1_; have GW407 := n2_; have GE407 := n3_; clear n0_ n1_ n2_ n3_ hb hbox hg) | ((with_reducible refine gate_dst (N := 3) rfl ?_); refine box_event ?hg (N := 3) ?hd (cs := #[.slice A1_0 l1_0.length c1_0, .int .i64 a1_1, .int .i64 a1_2, .int .i64 a1_3, .int .i64 a1_4, .int .i64 a1_5]) (t := 122) ?hr ?_; (case hd => rfl); (case hg => rfl); (case hr => first | (go_simp; done) | (go_simp; rfl)); intro gb408 hg w7 hbox hb; have n0_ := Aside0.mk (blk_below (bk_ BK407.out) hb); have n1_ := Aside0.mk (below_step (bl_ HB.out) hb); have n2_ := Aside0.mk (hbox); have n3_ := Aside0.mk (szl_ hg HB.out); have n4_ := Aside0.mk (szl_ hg HB.out); have n5_ := Aside0.mk (nel_ hg BK407.out); have n6_ := Aside0.mk (ner_ hg BK407.out); clear BK407 HB; have BK407 := n0_; have HB := n1_; have BK408 := n2_; have GW408 := n3_; have GE408 := n4_; have NB407_408 := n5_; have NB408_407 := n6_; clear n0_ n1_ n2_ n3_ n4_ n5_ n6_ hb hbox hg; have hnb8 := NB407_408.out; have hnc8 := NB408_407.out; have hcz9_0 : w7.cell? ⟨gb407, 0, none⟩ = some (.int .i64 a0_0) := (blk_cell BK407.out 0).trans rfl; have hcz9_1 : w7.cell? ⟨gb407, 1, none⟩ = some (.int .i64 a0_1) := (blk_cell BK407.out 1).trans rfl; have hcz9_2 : w7.cell? ⟨gb407, 2, none⟩ = some (.int .i64 a0_2) := (blk_cell BK407.out 2).trans rfl; have hfz9_0 := blk_frozen BK407.out 0; have hfz9_1 := blk_frozen BK407.out 1; have hfz9_2 := blk_frozen BK407.out 2; have hcz10_0 : w7.cell? ⟨gb408, 0, none⟩ = some (.slice A1_0 l1_0.length c1_0) := (blk_cell BK408.out 0).trans rfl; have hcz10_1 : w7.cell? ⟨gb408, 1, none⟩ = some (.int .i64 a1_1) := (blk_cell BK408.out 1).trans rfl; have hcz10_2 : w7.cell? ⟨gb408, 2, none⟩ = some (.int .i64 a1_2) := (blk_cell BK408.out 2).trans rfl; have hcz10_3 : w7.cell? ⟨gb408, 3, none⟩ = some (.int .i64 a1_3) := (blk_cell BK408.out 3).trans rfl; have hcz10_4 : w7.cell? ⟨gb408, 4, none⟩ = some (.int .i64 a1_4) := (blk_cell BK408.out 4).trans rfl; have hcz10_5 : w7.cell? ⟨gb408, 5, none⟩ = some (.int .i64 a1_5) := (blk_cell BK408.out 5).trans rfl; have hfz10_0 := blk_frozen BK408.out 0; have hfz10_1 := blk_frozen BK408.out 1; have hfz10_2 := blk_frozen BK408.out 2; have hfz10_3 := blk_frozen BK408.out 3; have hfz10_4 := blk_frozen BK408.out 4; have hfz10_5 := blk_frozen BK408.out 5) | ((with_reducible refine gate_callee (f := 81) rfl ?_); refine goesL_ (some 26) rfl rfl Try.func81 (by kernel_rfl) rfl #[.agg #[.int .i64 a0_0, .int .i64 a0_1, .int .i64 a0_2], .slice A1_0 l1_0.length c1_0, .agg #[.int .i64 a1_1, .int .i64 a1_2], .int .i64 a1_5] rfl (by (try simp only [List.map_toArray, List.map_cons, List.map_nil]); first | done | rfl | (simp only [List.length_drop, List.length_take]; rfl)) ?_; (with_reducible refine (sling_Reach.calls k a0_0 a0_1 a0_2 _ _ l1_0 a1_1 a1_2 a1_5 t409 t410 t411 t412 t413 _ ?side1 ?side2 A3.out).mono ?_); (case side1 => exact cr_ (Kd.C_below HR1_0.out HB.out)); (case side2 => exact HC1_0.out); rintro e w11 ⟨rfl, hb⟩; refine ⟨_, rfl, ?_⟩; have n0_ := Aside0.mk (blk_below (bk_ BK407.out) hb); have n1_ := Aside0.mk (blk_below (bk_ BK408.out) hb); have n2_ := Aside0.mk (below_step (bl_ HB.out) hb); clear BK407 BK408 HB; have BK407 := n0_; have BK408 := n1_; have HB := n2_; clear n0_ n1_ n2_; (try clear hb); (try clear hb2); (try clear hk); (try clear hi)) | ((with_reducible refine gate_dst (N := 5) rfl ?_); refine box_event ?hg (N := 5) ?hd (cs := #[.int .i64 0, .int .i64 0]) (t := 28) ?hr ?_; (case hd => rfl); (case hg => rfl); (case hr => first | (go_simp; done) | (go_simp; rfl)); intro gb414 hg w12 hbox hb; have n0_ := Aside0.mk (blk_below (bk_ BK407.out) hb); have n1_ := Aside0.mk (blk_below (bk_ BK408.out) hb); have n2_ := Aside0.mk (below_step (bl_ HB.out) hb); have n3_ := Aside0.mk (hbox); have n4_ := Aside0.mk (szl_ hg HB.out); have n5_ := Aside0.mk (szl_ hg HB.out); have n6_ := Aside0.mk (nel_ hg BK407.out); have n7_ := Aside0.mk (ner_ hg BK407.out); have n8_ := Aside0.mk (nel_ hg BK408.out); have n9_ := Aside0.mk (ner_ hg BK408.out); clear BK407 BK408 HB; have BK407 := n0_; have BK408 := n1_; have HB := n2_; have BK414 := n3_; have GW414 := n4_; have GE414 := n5_; have NB407_414 := n6_; have NB414_407 := n7_; have NB408_414 := n8_; have NB414_408 := n9_; clear n0_ n1_ n2_ n3_ n4_ n5_ n6_ n7_ n8_ n9_ hb hbox hg) | ((with_reducible refine gate_dst (N := 6) rfl ?_); refine box_event ?hg (N := 6) ?hd (cs := #[.int .i64 0, .int .i64 0]) (t := 28) ?hr ?_; (case hd => rfl); (case hg => rfl); (case hr => first | (go_simp; done) | (go_simp; rfl)); intro gb415 hg w13 hbox hb; have n0_ := Aside0.mk (blk_below (bk_ BK407.out) hb); have n1_ := Aside0.mk (blk_below (bk_ BK408.out) hb); have n2_ := Aside0.mk (blk_below (bk_ BK414.out) hb); have n3_ := Aside0.mk (below_step (bl_ HB.out) hb); have n4_ := Aside0.mk (hbox); have n5_ := Aside0.mk (szl_ hg HB.out); have n6_ := Aside0.mk (szl_ hg HB.out); have n7_ := Aside0.mk (nel_ hg BK407.out); have n8_ := Aside0.mk (ner_ hg BK407.out); have n9_ := Aside0.mk (nel_ hg BK408.out); have n10_ := Aside0.mk (ner_ hg BK408.out); have n11_ := Aside0.mk (nel_ hg BK414.out); have n12_ := Aside0.mk (ner_ hg BK414.out); clear BK407 BK408 BK414 HB; have BK407 := n0_; have BK408 := n1_; have BK414 := n2_; have HB := n3_; have BK415 := n4_; have GW415 := n5_; have GE415 := n6_; have NB407_415 := n7_; have NB415_407 := n8_; have NB408_415 := n9_; have NB415_408 := n10_; have NB414_415 := n11_; have NB415_414 := n12_; clear n0_ n1_ n2_ n3_ n4_ n5_ n6_ n7_ n8_ n9_ n10_ n11_ n12_ hb hbox hg; have hnb14 := NB414_407.out; have hnc14 := NB407_414.out; have hnb15 := NB414_408.out; have hnc15 := NB408_414.out; have hnb16 := NB414_415.out; have hnc16 := NB415_414.out; have hcz17_0 : w13.cell? ⟨gb414, 0, none⟩ = some (.int .i64 0) := (blk_cell BK414.out 0).trans rfl; have hcz17_1 : w13.cell? ⟨gb414, 1, none⟩ = some (.int .i64 0) := (blk_cell BK414.out 1).trans rfl; have hfz17_0 := blk_frozen BK414.out 0; have hfz17_1 := blk_frozen BK414.out 1; have hnb18 := NB415_407.out; have hnc18 := NB407_415.out; have hnb19 := NB415_408.out; have hnc19 := NB408_415.out; have hcz20_0 : w13.cell? ⟨gb415, 0, none⟩ = some (.int .i64 0) := (blk_cell BK415.out 0).trans rfl; have hcz20_1 : w13.cell? ⟨gb415, 1, none⟩ = some (.int .i64 0) := (blk_cell BK415.out 1).trans rfl; have hfz20_0 := blk_frozen BK415.out 0; have hfz20_1 := blk_frozen BK415.out 1; have hcz21_0 : w13.cell? ⟨gb407, 0, none⟩ = some (.int .i64 a0_0) := (blk_cell BK407.out 0).trans rfl; have hcz21_1 : w13.cell? ⟨gb407, 1, none⟩ = some (.int .i64 a0_1) := (blk_cell BK407.out 1).trans rfl; have hcz21_2 : w13.cell? ⟨gb407, 2, none⟩ = some (.int .i64 a0_2) := (blk_cell BK407.out 2).trans rfl; have hfz21_0 := blk_frozen BK407.out 0; have hfz21_1 := blk_frozen BK407.out 1; have hfz21_2 := blk_frozen BK407.out 2; have hcz22_0 : w13.cell? ⟨gb408, 0, none⟩ = some (.slice A1_0 l1_0.length c1_0) := (blk_cell BK408.out 0).trans rfl; have hcz22_1 : w13.cell? ⟨gb408, 1, none⟩ = some (.int .i64 a1_1) := (blk_cell BK408.out 1).trans rfl; have hcz22_2 : w13.cell? ⟨gb408, 2, none⟩ = some (.int .i64 a1_2) := (blk_cell BK408.out 2).trans rfl; have hcz22_3 : w13.cell? ⟨gb408, 3, none⟩ = some (.int .i64 a1_3) := (blk_cell BK408.out 3).trans rfl; have hcz22_4 : w13.cell? ⟨gb408, 4, none⟩ = some (.int .i64 a1_4) := (blk_cell BK408.out 4).trans rfl; have hcz22_5 : w13.cell? ⟨gb408, 5, none⟩ = some (.int .i64 a1_5) := (blk_cell BK408.out 5).trans rfl; have hfz22_0 := blk_frozen BK408.out 0; have hfz22_1 := blk_frozen BK408.out 1; have hfz22_2 := blk_frozen BK408.out 2; have hfz22_3 := blk_frozen BK408.out 3; have hfz22_4 := blk_frozen BK408.out 4; have hfz22_5 := blk_frozen BK408.out 5) | ((with_reducible refine gate_callee (f := 82) rfl ?_); refine goesL_ (some 38) rfl rfl Try.func82 (by kernel_rfl) rfl #[.agg #[.int .i64 a0_0, .int .i64 a0_1, .int .i64 a0_2], .slice A1_0 l1_0.length c1_0, .agg #[.int .i64 a1_1, .int .i64 a1_2], .int .i64 a1_5] rfl (by (try simp only [List.map_toArray, List.map_cons, List.map_nil]); first | done | rfl | (simp only [List.length_drop, List.length_take]; rfl)) ?_; (with_reducible refine (swashplateref07_Reach.calls k a0_0 a0_1 a0_2 _ _ l1_0 a1_1 a1_2 a1_5 t416 t417 t418 t419 t420 _ ?side1 ?side2 A4.out).mono ?_); (case side1 => exact Kd.C_below HR1_0.out (bl_ HB.out)); (case side2 => exact HC1_0.out); rintro e w23 ⟨rfl, hb⟩; refine ⟨_, rfl, ?_⟩; have n0_ := Aside0.mk (blk_below (g := gb407) (o := .cells #[.int .i64 a0_0, .int .i64 a0_1, .int .i64 a0_2] 105 (0, 0)) (by (with_reducible repeat (first | refine blk_drewN ?_ _ | refine blk_drew ?_ | refine blk_alloc ?_ _)); refine blk_far ?_ NB407_415.out _; (with_reducible repeat (first | refine blk_drewN ?_ _ | refine blk_drew ?_ | refine blk_alloc ?_ _)); refine blk_far ?_ NB407_415.out _; (with_reducible repeat (first | refine blk_drewN ?_ _ | refine blk_drew ?_ | refine blk_alloc ?_ _)); refine blk_far ?_ NB407_414.out _; (with_reducible repeat (first | refine blk_drewN ?_ _ | refine blk_drew ?_ | refine blk_alloc ?_ _)); refine blk_far ?_ NB407_414.out _; (with_reducible repeat (first | refine blk_drewN ?_ _ | refine blk_drew ?_ | refine blk_alloc ?_ _)); exact BK407.out) hb); have n1_ := Aside0.mk (blk_below (g := gb408) (o := .cells #[.slice A1_0 l1_0.length c1_0, .int .i64 a1_1, .int .i64 a1_2, .int .i64 a1_3, .int .i64 a1_4, .int .i64 a1_5] 122 (0, 0)) (by (with_reducible repeat (first | refine blk_drewN ?_ _ | refine blk_drew ?_ | refine blk_alloc ?_ _)); refine blk_far ?_ NB408_415.out _; (with_reducible repeat (first | refine blk_drewN ?_ _ | refine blk_drew ?_ | refine blk_alloc ?_ _)); refine blk_far ?_ NB408_415.out _; (with_reducible repeat (first | refine blk_drewN ?_ _ | refine blk_drew ?_ | refine blk_alloc ?_ _)); refine blk_far ?_ NB408_414.out _; (with_reducible repeat (first | refine blk_drewN ?_ _ | refine blk_drew ?_ | refine blk_alloc ?_ _)); refine blk_far ?_ NB408_414.out _; (with_reducible repeat (first | refine blk_drewN ?_ _ | refine blk_drew ?_ | refine blk_alloc ?_ _)); exact BK408.out) hb); have n2_ := Aside0.mk (blk_below (g := gb414) (o := .cells #[.int .i64 t409, .int .i64 t410] 28 (0, 0)) (by (with_reducible repeat (first | refine blk_drewN ?_ _ | refine blk_drew ?_ | refine blk_alloc ?_ _)); refine blk_far ?_ NB414_415.out _; (with_reducible repeat (first | refine blk_drewN ?_ _ | refine blk_drew ?_ | refine blk_alloc ?_ _)); refine blk_far ?_ NB414_415.out _; (with_reducible repeat (first | refine blk_drewN ?_ _ | refine blk_drew ?_ | refine blk_alloc ?_ _)); refine blk_put (cs := #[.int .i64 t409, .int .i64 0]) ?_ 1 _ rfl; (with_reducible repeat (first | refine blk_drewN ?_ _ | refine blk_drew ?_ | refine blk_alloc ?_ _)); refine blk_put (cs := #[.int .i64 0, .int .i64 0]) ?_ 0 _ rfl; (with_reducible repeat (first | refine blk_drewN ?_ _ | refine blk_drew ?_ | refine blk_alloc ?_ _)); exact BK414.out) hb); have n3_ := Aside0.mk (blk_below (g := gb415) (o := .cells #[.int .i64 t411, .int .i64 t412] 28 (0, 0)) (by (with_reducible repeat (first | refine blk_drewN ?_ _ | refine blk_drew ?_ | refine blk_alloc ?_ _)); refine blk_put (cs := #[.int .i64 t411, .int .i64 0]) ?_ 1 _ rfl; (with_reducible repeat (first | refine blk_drewN ?_ _ | refine blk_drew ?_ | refine blk_alloc ?_ _)); refine blk_put (cs := #[.int .i64 0, .int .i64 0]) ?_ 0 _ rfl; (with_reducible repeat (first | refine blk_drewN ?_ _ | refine blk_drew ?_ | refine blk_alloc ?_ _)); refine blk_far ?_ NB415_414.out _; (with_reducible repeat (first | refine blk_drewN ?_ _ | refine blk_drew ?_ | refine blk_alloc ?_ _)); refine blk_far ?_ NB415_414.out _; (with_reducible repeat (first | refine blk_drewN ?_ _ | refine blk_drew ?_ | refine blk_alloc ?_ _)); exact BK415.out) hb); have n4_ := Aside0.mk (below_step (bl_ HB.out) hb); clear BK407 BK408 BK414 BK415 HB; have BK407 := n0_; have BK408 := n1_; have BK414 := n2_; have BK415 := n3_; have HB := n4_; clear n0_ n1_ n2_ n3_ n4_; (try clear hb); (try clear hb2); (try clear hk); (try clear hi)) | ((with_reducible refine gate_dst (N := 8) rfl ?_); refine box_event ?hg (N := 8) ?hd (cs := #[.int .i64 0, .int .i64 0]) (t := 28) ?hr ?_; (case hd => rfl); (case hg => rfl); (case hr => first | (go_simp; done) | (go_simp; rfl)); intro gb421 hg w24 hbox hb; have n0_ := Aside0.mk (blk_below (bk_ BK407.out) hb); have n1_ := Aside0.mk (blk_below (bk_ BK408.out) hb); have n2_ := Aside0.mk (blk_below (bk_ BK414.out) hb); have n3_ := Aside0.mk (blk_below (bk_ BK415.out) hb); have n4_ := Aside0.mk (below_step (bl_ HB.out) hb); have n5_ := Aside0.mk (hbox); have n6_ := Aside0.mk (szl_ hg HB.out); have n7_ := Aside0.mk (szl_ hg HB.out); have n8_ := Aside0.mk (nel_ hg BK407.out); have n9_ := Aside0.mk (ner_ hg BK407.out); have n10_ := Aside0.mk (nel_ hg BK408.out); have n11_ := Aside0.mk (ner_ hg BK408.out); have n12_ := Aside0.mk (nel_ hg BK414.out); have n13_ := Aside0.mk (ner_ hg BK414.out); have n14_ := Aside0.mk (nel_ hg BK415.out); have n15_ := Aside0.mk (ner_ hg BK415.out); clear BK407 BK408 BK414 BK415 HB; have BK407 := n0_; have BK408 := n1_; have BK414 := n2_; have BK415 := n3_; have HB := n4_; have BK421 := n5_; have GW421 := n6_; have GE421 := n7_; have NB407_421 := n8_; have NB421_407 := n9_; have NB408_421 := n10_; have NB421_408 := n11_; have NB414_421 := n12_; have NB421_414 := n13_; have NB415_421 := n14_; have NB421_415 := n15_; clear n0_ n1_ n2_ n3_ n4_ n5_ n6_ n7_ n8_ n9_ n10_ n11_ n12_ n13_ n14_ n15_ hb hbox hg) | ((with_reducible refine gate_dst (N := 9) rfl ?_); refine box_event ?hg (N := 9) ?hd (cs := #[.int .i64 0, .int .i64 0]) (t := 28) ?hr ?_; (case hd => rfl); (case hg => rfl); (case hr => first | (go_simp; done) | (go_simp; rfl)); intro gb422 hg w25 hbox hb; have n0_ := Aside0.mk (blk_below (bk_ BK407.out) hb); have n1_ := Aside0.mk (blk_below (bk_ BK408.out) hb); have n2_ := Aside0.mk (blk_below (bk_ BK414.out) hb); have n3_ := Aside0.mk (blk_below (bk_ BK415.out) hb); have n4_ := Aside0.mk (blk_below (bk_ BK421.out) hb); have n5_ := Aside0.mk (below_step (bl_ HB.out) hb); have n6_ := Aside0.mk (hbox); have n7_ := Aside0.mk (szl_ hg HB.out); have n8_ := Aside0.mk (szl_ hg HB.out); have n9_ := Aside0.mk (nel_ hg BK407.out); have n10_ := Aside0.mk (ner_ hg BK407.out); have n11_ := Aside0.mk (nel_ hg BK408.out); have n12_ := Aside0.mk (ner_ hg BK408.out); have n13_ := Aside0.mk (nel_ hg BK414.out); have n14_ := Aside0.mk (ner_ hg BK414.out); have n15_ := Aside0.mk (nel_ hg BK415.out); have n16_ := Aside0.mk (ner_ hg BK415.out); have n17_ := Aside0.mk (nel_ hg BK421.out); have n18_ := Aside0.mk (ner_ hg BK421.out); clear BK407 BK408 BK414 BK415 BK421 HB; have BK407 := n0_; have BK408 := n1_; have BK414 := n2_; have BK415 := n3_; have BK421 := n4_; have HB := n5_; have BK422 := n6_; have GW422 := n7_; have GE422 := n8_; have NB407_422 := n9_; have NB422_407 := n10_; have NB408_422 := n11_; have NB422_408 := n12_; have NB414_422 := n13_; have NB422_414 := n14_; have NB415_422 := n15_; have NB422_415 := n16_; have NB421_422 := n17_; have NB422_421 := n18_; clear n0_ n1_ n2_ n3_ n4_ n5_ n6_ n7_ n8_ n9_ n10_ n11_ n12_ n13_ n14_ n15_ n16_ n17_ n18_ hb hbox hg; have hnb26 := NB421_407.out; have hnc26 := NB407_421.out; have hnb27 := NB421_408.out; have hnc27 := NB408_421.out; have hnb28 := NB421_414.out; have hnc28 := NB414_421.out; have hnb29 := NB421_415.out; have hnc29 := NB415_421.out; have hnb30 := NB421_422.out; have hnc30 := NB422_421.out; have hcz31_0 : w25.cell? ⟨gb421, 0, none⟩ = some (.int .i64 0) := (blk_cell BK421.out 0).trans rfl; have hcz31_1 : w25.cell? ⟨gb421, 1, none⟩ = some (.int .i64 0) := (blk_cell BK421.out 1).trans rfl; have hfz31_0 := blk_frozen BK421.out 0; have hfz31_1 := blk_frozen BK421.out 1; have hnb32 := NB422_407.out; have hnc32 := NB407_422.out; have hnb33 := NB422_408.out; have hnc33 := NB408_422.out; have hnb34 := NB422_414.out; have hnc34 := NB414_422.out; have hnb35 := NB422_415.out; have hnc35 := NB415_422.out; have hcz36_0 : w25.cell? ⟨gb422, 0, none⟩ = some (.int .i64 0) := (blk_cell BK422.out 0).trans rfl; have hcz36_1 : w25.cell? ⟨gb422, 1, none⟩ = some (.int .i64 0) := (blk_cell BK422.out 1).trans rfl; have hfz36_0 := blk_frozen BK422.out 0; have hfz36_1 := blk_frozen BK422.out 1))
 (try simp only [Act.put, List.setIfInBounds_toArray, List.set_cons_zero, List.set_cons_succ])
 go_cut [54] (fun v54 wc => ∃ (kq : Nat) (x54_4 : Bool), v54 = .bool x54_4 ∧ Aside0 (swashplatelaw07_SlingReaches.j0 kq x54_4 a0_0 a0_1 a0_2 l1_0 a1_1 a1_2 a1_3 a1_4 a1_5 = some r) ∧ Aside0 (kq ≤ k) ∧ Aside0 (wc.heap[gb407]? = some (.cells #[.int .i64 a0_0, .int .i64 a0_1, .int .i64 a0_2] 105 (0, 0))) ∧ Aside0 (wc.heap[gb408]? = some (.cells #[(.slice A1_0 l1_0.length c1_0), .int .i64 a1_1, .int .i64 a1_2, .int .i64 a1_3, .int .i64 a1_4, .int .i64 a1_5] 122 (0, 0))) ∧ Aside0 (wc.heap[gb414]? = some (.cells #[.int .i64 t409, .int .i64 t410] 28 (0, 0))) ∧ Aside0 (wc.heap[gb415]? = some (.cells #[.int .i64 t411, .int .i64 t412] 28 (0, 0))) ∧ Aside0 (wc.heap[gb421]? = some (.cells #[.int .i64 t416, .int .i64 t417] 28 (0, 0))) ∧ Aside0 (wc.heap[gb422]? = some (.cells #[.int .i64 t418, .int .i64 t419] 28 (0, 0))) ∧ Aside0 (Below w.heap.size w wc))
 case first =>
  have H := HC5.out
  clear HC5
  by_cases c37 : (!(t409 == t416) || (!(t410 == t417))) = true
  ·
   rw [if_pos c37] at H
   have c37b0 : (!(t409 == t416) || (!(t410 == t417))) = true := c37
   clear c37
   (first | rw [c37b0] | (simp only [i64_w, i32_w]; rw [c37b0]) | skip)
   have H' := Aside0.mk H
   clear H
   have hnb38 := NB414_407.out
   have hnc38 := NB407_414.out
   have hnb39 := NB414_408.out
   have hnc39 := NB408_414.out
   have hnb40 := NB414_415.out
   have hnc40 := NB415_414.out
   have hnb41 := NB414_421.out
   have hnc41 := NB421_414.out
   have hnb42 := NB414_422.out
   have hnc42 := NB422_414.out
   have hcz43_0 : w25.cell? ⟨gb414, 0, none⟩ = some (.int .i64 t409) := (blk_cell BK414.out 0).trans rfl
   have hcz43_1 : w25.cell? ⟨gb414, 1, none⟩ = some (.int .i64 t410) := (blk_cell BK414.out 1).trans rfl
   have hfz43_0 := blk_frozen BK414.out 0
   have hfz43_1 := blk_frozen BK414.out 1
   have hnb44 := NB421_407.out
   have hnc44 := NB407_421.out
   have hnb45 := NB421_408.out
   have hnc45 := NB408_421.out
   have hnb46 := NB421_415.out
   have hnc46 := NB415_421.out
   have hnb47 := NB421_422.out
   have hnc47 := NB422_421.out
   have hcz48_0 : w25.cell? ⟨gb421, 0, none⟩ = some (.int .i64 0) := (blk_cell BK421.out 0).trans rfl
   have hcz48_1 : w25.cell? ⟨gb421, 1, none⟩ = some (.int .i64 0) := (blk_cell BK421.out 1).trans rfl
   have hfz48_0 := blk_frozen BK421.out 0
   have hfz48_1 := blk_frozen BK421.out 1
   go_wp2
   go_meet
   case rel => exact ⟨_, (true), (by first | rfl | (simp; done) | (simp [*]; done)), H', ⟨by first | omega | exact Nat.le_refl _⟩, ⟨by (with_reducible repeat (first | refine blk_drewN ?_ _ | refine blk_drew ?_ | refine blk_alloc ?_ _)); refine blk_far ?_ NB407_422.out _; (with_reducible repeat (first | refine blk_drewN ?_ _ | refine blk_drew ?_ | refine blk_alloc ?_ _)); refine blk_far ?_ NB407_422.out _; (with_reducible repeat (first | refine blk_drewN ?_ _ | refine blk_drew ?_ | refine blk_alloc ?_ _)); refine blk_far ?_ NB407_421.out _; (with_reducible repeat (first | refine blk_drewN ?_ _ | refine blk_drew ?_ | refine blk_alloc ?_ _)); refine blk_far ?_ NB407_421.out _; (with_reducible repeat (first | refine blk_drewN ?_ _ | refine blk_drew ?_ | refine blk_alloc ?_ _)); exact BK407.out⟩, ⟨by (with_reducible repeat (first | refine blk_drewN ?_ _ | refine blk_drew ?_ | refine blk_alloc ?_ _)); refine blk_far ?_ NB408_422.out _; (with_reducible repeat (first | refine blk_drewN ?_ _ | refine blk_drew ?_ | refine blk_alloc ?_ _)); refine blk_far ?_ NB408_422.out _; (with_reducible repeat (first | refine blk_drewN ?_ _ | refine blk_drew ?_ | refine blk_alloc ?_ _)); refine blk_far ?_ NB408_421.out _; (with_reducible repeat (first | refine blk_drewN ?_ _ | refine blk_drew ?_ | refine blk_alloc ?_ _)); refine blk_far ?_ NB408_421.out _; (with_reducible repeat (first | refine blk_drewN ?_ _ | refine blk_drew ?_ | refine blk_alloc ?_ _)); exact BK408.out⟩, ⟨by (with_reducible repeat (first | refine blk_drewN ?_ _ | refine blk_drew ?_ | refine blk_alloc ?_ _)); refine blk_far ?_ NB414_422.out _; (with_reducible repeat (first | refine blk_drewN ?_ _ | refine blk_drew ?_ | refine blk_alloc ?_ _)); refine blk_far ?_ NB414_422.out _; (with_reducible repeat (first | refine blk_drewN ?_ _ | refine blk_drew ?_ | refine blk_alloc ?_ _)); refine blk_far ?_ NB414_421.out _; (with_reducible repeat (first | refine blk_drewN ?_ _ | refine blk_drew ?_ | refine blk_alloc ?_ _)); refine blk_far ?_ NB414_421.out _; (with_reducible repeat (first | refine blk_drewN ?_ _ | refine blk_drew ?_ | refine blk_alloc ?_ _)); exact BK414.out⟩, ⟨by (with_reducible repeat (first | refine blk_drewN ?_ _ | refine blk_drew ?_ | refine blk_alloc ?_ _)); refine blk_far ?_ NB415_422.out _; (with_reducible repeat (first | refine blk_drewN ?_ _ | refine blk_drew ?_ | refine blk_alloc ?_ _)); refine blk_far ?_ NB415_422.out _; (with_reducible repeat (first | refine blk_drewN ?_ _ | refine blk_drew ?_ | refine blk_alloc ?_ _)); refine blk_far ?_ NB415_421.out _; (with_reducible repeat (first | refine blk_drewN ?_ _ | refine blk_drew ?_ | refine blk_alloc ?_ _)); refine blk_far ?_ NB415_421.out _; (with_reducible repeat (first | refine blk_drewN ?_ _ | refine blk_drew ?_ | refine blk_alloc ?_ _)); exact BK415.out⟩, ⟨by (with_reducible repeat (first | refine blk_drewN ?_ _ | refine blk_drew ?_ | refine blk_alloc ?_ _)); refine blk_far ?_ NB421_422.out _; (with_reducible repeat (first | refine blk_drewN ?_ _ | refine blk_drew ?_ | refine blk_alloc ?_ _)); refine blk_far ?_ NB421_422.out _; (with_reducible repeat (first | refine blk_drewN ?_ _ | refine blk_drew ?_ | refine blk_alloc ?_ _)); refine blk_put (cs := #[.int .i64 t416, .int .i64 0]) ?_ 1 _ rfl; (with_reducible repeat (first | refine blk_drewN ?_ _ | refine blk_drew ?_ | refine blk_alloc ?_ _)); refine blk_put (cs := #[.int .i64 0, .int .i64 0]) ?_ 0 _ rfl; (with_reducible repeat (first | refine blk_drewN ?_ _ | refine blk_drew ?_ | refine blk_alloc ?_ _)); exact BK421.out⟩, ⟨by (with_reducible repeat (first | refine blk_drewN ?_ _ | refine blk_drew ?_ | refine blk_alloc ?_ _)); refine blk_put (cs := #[.int .i64 t418, .int .i64 0]) ?_ 1 _ rfl; (with_reducible repeat (first | refine blk_drewN ?_ _ | refine blk_drew ?_ | refine blk_alloc ?_ _)); refine blk_put (cs := #[.int .i64 0, .int .i64 0]) ?_ 0 _ rfl; (with_reducible repeat (first | refine blk_drewN ?_ _ | refine blk_drew ?_ | refine blk_alloc ?_ _)); refine blk_far ?_ NB422_421.out _; (with_reducible repeat (first | refine blk_drewN ?_ _ | refine blk_drew ?_ | refine blk_alloc ?_ _)); refine blk_far ?_ NB422_421.out _; (with_reducible repeat (first | refine blk_drewN ?_ _ | refine blk_drew ?_ | refine blk_alloc ?_ _)); exact BK422.out⟩, ⟨bl_ HB.out⟩⟩
  ·
   rw [if_neg c37] at H
   have c37b0 : (!(t409 == t416) || (!(t410 == t417))) = false := by simpa using c37
   clear c37
   (first | rw [c37b0] | (simp only [i64_w, i32_w]; rw [c37b0]) | skip)
   by_cases c49 : (!(t411 == t418) || (!(t412 == t419))) = true
   ·
    rw [if_pos c49] at H
    have c49b0 : (!(t411 == t418) || (!(t412 == t419))) = true := c49
    clear c49
    have H' := Aside0.mk H
    clear H
    have hnb50 := NB414_407.out
    have hnc50 := NB407_414.out
    have hnb51 := NB414_408.out
    have hnc51 := NB408_414.out
    have hnb52 := NB414_415.out
    have hnc52 := NB415_414.out
    have hnb53 := NB414_421.out
    have hnc53 := NB421_414.out
    have hnb54 := NB414_422.out
    have hnc54 := NB422_414.out
    have hcz55_0 : w25.cell? ⟨gb414, 0, none⟩ = some (.int .i64 t409) := (blk_cell BK414.out 0).trans rfl
    have hcz55_1 : w25.cell? ⟨gb414, 1, none⟩ = some (.int .i64 t410) := (blk_cell BK414.out 1).trans rfl
    have hfz55_0 := blk_frozen BK414.out 0
    have hfz55_1 := blk_frozen BK414.out 1
    have hnb56 := NB421_407.out
    have hnc56 := NB407_421.out
    have hnb57 := NB421_408.out
    have hnc57 := NB408_421.out
    have hnb58 := NB421_415.out
    have hnc58 := NB415_421.out
    have hnb59 := NB421_422.out
    have hnc59 := NB422_421.out
    have hcz60_0 : w25.cell? ⟨gb421, 0, none⟩ = some (.int .i64 0) := (blk_cell BK421.out 0).trans rfl
    have hcz60_1 : w25.cell? ⟨gb421, 1, none⟩ = some (.int .i64 0) := (blk_cell BK421.out 1).trans rfl
    have hfz60_0 := blk_frozen BK421.out 0
    have hfz60_1 := blk_frozen BK421.out 1
    have hnb61 := NB415_407.out
    have hnc61 := NB407_415.out
    have hnb62 := NB415_408.out
    have hnc62 := NB408_415.out
    have hnb63 := NB415_422.out
    have hnc63 := NB422_415.out
    have hcz64_0 : w25.cell? ⟨gb415, 0, none⟩ = some (.int .i64 t411) := (blk_cell BK415.out 0).trans rfl
    have hcz64_1 : w25.cell? ⟨gb415, 1, none⟩ = some (.int .i64 t412) := (blk_cell BK415.out 1).trans rfl
    have hfz64_0 := blk_frozen BK415.out 0
    have hfz64_1 := blk_frozen BK415.out 1
    have hnb65 := NB422_407.out
    have hnc65 := NB407_422.out
    have hnb66 := NB422_408.out
    have hnc66 := NB408_422.out
    have hcz67_0 : w25.cell? ⟨gb422, 0, none⟩ = some (.int .i64 0) := (blk_cell BK422.out 0).trans rfl
    have hcz67_1 : w25.cell? ⟨gb422, 1, none⟩ = some (.int .i64 0) := (blk_cell BK422.out 1).trans rfl
    have hfz67_0 := blk_frozen BK422.out 0
    have hfz67_1 := blk_frozen BK422.out 1
    go_wp2
    go_meet
    case rel => exact ⟨_, (true), (by first | rfl | (simp; done) | (simp [*]; done)), H', ⟨by first | omega | exact Nat.le_refl _⟩, ⟨by (with_reducible repeat (first | refine blk_drewN ?_ _ | refine blk_drew ?_ | refine blk_alloc ?_ _)); refine blk_far ?_ NB407_422.out _; (with_reducible repeat (first | refine blk_drewN ?_ _ | refine blk_drew ?_ | refine blk_alloc ?_ _)); refine blk_far ?_ NB407_422.out _; (with_reducible repeat (first | refine blk_drewN ?_ _ | refine blk_drew ?_ | refine blk_alloc ?_ _)); refine blk_far ?_ NB407_421.out _; (with_reducible repeat (first | refine blk_drewN ?_ _ | refine blk_drew ?_ | refine blk_alloc ?_ _)); refine blk_far ?_ NB407_421.out _; (with_reducible repeat (first | refine blk_drewN ?_ _ | refine blk_drew ?_ | refine blk_alloc ?_ _)); exact BK407.out⟩, ⟨by (with_reducible repeat (first | refine blk_drewN ?_ _ | refine blk_drew ?_ | refine blk_alloc ?_ _)); refine blk_far ?_ NB408_422.out _; (with_reducible repeat (first | refine blk_drewN ?_ _ | refine blk_drew ?_ | refine blk_alloc ?_ _)); refine blk_far ?_ NB408_422.out _; (with_reducible repeat (first | refine blk_drewN ?_ _ | refine blk_drew ?_ | refine blk_alloc ?_ _)); refine blk_far ?_ NB408_421.out _; (with_reducible repeat (first | refine blk_drewN ?_ _ | refine blk_drew ?_ | refine blk_alloc ?_ _)); refine blk_far ?_ NB408_421.out _; (with_reducible repeat (first | refine blk_drewN ?_ _ | refine blk_drew ?_ | refine blk_alloc ?_ _)); exact BK408.out⟩, ⟨by (with_reducible repeat (first | refine blk_drewN ?_ _ | refine blk_drew ?_ | refine blk_alloc ?_ _)); refine blk_far ?_ NB414_422.out _; (with_reducible repeat (first | refine blk_drewN ?_ _ | refine blk_drew ?_ | refine blk_alloc ?_ _)); refine blk_far ?_ NB414_422.out _; (with_reducible repeat (first | refine blk_drewN ?_ _ | refine blk_drew ?_ | refine blk_alloc ?_ _)); refine blk_far ?_ NB414_421.out _; (with_reducible repeat (first | refine blk_drewN ?_ _ | refine blk_drew ?_ | refine blk_alloc ?_ _)); refine blk_far ?_ NB414_421.out _; (with_reducible repeat (first | refine blk_drewN ?_ _ | refine blk_drew ?_ | refine blk_alloc ?_ _)); exact BK414.out⟩, ⟨by (with_reducible repeat (first | refine blk_drewN ?_ _ | refine blk_drew ?_ | refine blk_alloc ?_ _)); refine blk_far ?_ NB415_422.out _; (with_reducible repeat (first | refine blk_drewN ?_ _ | refine blk_drew ?_ | refine blk_alloc ?_ _)); refine blk_far ?_ NB415_422.out _; (with_reducible repeat (first | refine blk_drewN ?_ _ | refine blk_drew ?_ | refine blk_alloc ?_ _)); refine blk_far ?_ NB415_421.out _; (with_reducible repeat (first | refine blk_drewN ?_ _ | refine blk_drew ?_ | refine blk_alloc ?_ _)); refine blk_far ?_ NB415_421.out _; (with_reducible repeat (first | refine blk_drewN ?_ _ | refine blk_drew ?_ | refine blk_alloc ?_ _)); exact BK415.out⟩, ⟨by (with_reducible repeat (first | refine blk_drewN ?_ _ | refine blk_drew ?_ | refine blk_alloc ?_ _)); refine blk_far ?_ NB421_422.out _; (with_reducible repeat (first | refine blk_drewN ?_ _ | refine blk_drew ?_ | refine blk_alloc ?_ _)); refine blk_far ?_ NB421_422.out _; (with_reducible repeat (first | refine blk_drewN ?_ _ | refine blk_drew ?_ | refine blk_alloc ?_ _)); refine blk_put (cs := #[.int .i64 t416, .int .i64 0]) ?_ 1 _ rfl; (with_reducible repeat (first | refine blk_drewN ?_ _ | refine blk_drew ?_ | refine blk_alloc ?_ _)); refine blk_put (cs := #[.int .i64 0, .int .i64 0]) ?_ 0 _ rfl; (with_reducible repeat (first | refine blk_drewN ?_ _ | refine blk_drew ?_ | refine blk_alloc ?_ _)); exact BK421.out⟩, ⟨by (with_reducible repeat (first | refine blk_drewN ?_ _ | refine blk_drew ?_ | refine blk_alloc ?_ _)); refine blk_put (cs := #[.int .i64 t418, .int .i64 0]) ?_ 1 _ rfl; (with_reducible repeat (first | refine blk_drewN ?_ _ | refine blk_drew ?_ | refine blk_alloc ?_ _)); refine blk_put (cs := #[.int .i64 0, .int .i64 0]) ?_ 0 _ rfl; (with_reducible repeat (first | refine blk_drewN ?_ _ | refine blk_drew ?_ | refine blk_alloc ?_ _)); refine blk_far ?_ NB422_421.out _; (with_reducible repeat (first | refine blk_drewN ?_ _ | refine blk_drew ?_ | refine blk_alloc ?_ _)); refine blk_far ?_ NB422_421.out _; (with_reducible repeat (first | refine blk_drewN ?_ _ | refine blk_drew ?_ | refine blk_alloc ?_ _)); exact BK422.out⟩, ⟨bl_ HB.out⟩⟩
   ·
    rw [if_neg c49] at H
    have c49b0 : (!(t411 == t418) || (!(t412 == t419))) = false := by simpa using c49
    clear c49
    have H' := Aside0.mk H
    clear H
    have hnb68 := NB414_407.out
    have hnc68 := NB407_414.out
    have hnb69 := NB414_408.out
    have hnc69 := NB408_414.out
    have hnb70 := NB414_415.out
    have hnc70 := NB415_414.out
    have hnb71 := NB414_421.out
    have hnc71 := NB421_414.out
    have hnb72 := NB414_422.out
    have hnc72 := NB422_414.out
    have hcz73_0 : w25.cell? ⟨gb414, 0, none⟩ = some (.int .i64 t409) := (blk_cell BK414.out 0).trans rfl
    have hcz73_1 : w25.cell? ⟨gb414, 1, none⟩ = some (.int .i64 t410) := (blk_cell BK414.out 1).trans rfl
    have hfz73_0 := blk_frozen BK414.out 0
    have hfz73_1 := blk_frozen BK414.out 1
    have hnb74 := NB421_407.out
    have hnc74 := NB407_421.out
    have hnb75 := NB421_408.out
    have hnc75 := NB408_421.out
    have hnb76 := NB421_415.out
    have hnc76 := NB415_421.out
    have hnb77 := NB421_422.out
    have hnc77 := NB422_421.out
    have hcz78_0 : w25.cell? ⟨gb421, 0, none⟩ = some (.int .i64 0) := (blk_cell BK421.out 0).trans rfl
    have hcz78_1 : w25.cell? ⟨gb421, 1, none⟩ = some (.int .i64 0) := (blk_cell BK421.out 1).trans rfl
    have hfz78_0 := blk_frozen BK421.out 0
    have hfz78_1 := blk_frozen BK421.out 1
    have hnb79 := NB415_407.out
    have hnc79 := NB407_415.out
    have hnb80 := NB415_408.out
    have hnc80 := NB408_415.out
    have hnb81 := NB415_422.out
    have hnc81 := NB422_415.out
    have hcz82_0 : w25.cell? ⟨gb415, 0, none⟩ = some (.int .i64 t411) := (blk_cell BK415.out 0).trans rfl
    have hcz82_1 : w25.cell? ⟨gb415, 1, none⟩ = some (.int .i64 t412) := (blk_cell BK415.out 1).trans rfl
    have hfz82_0 := blk_frozen BK415.out 0
    have hfz82_1 := blk_frozen BK415.out 1
    have hnb83 := NB422_407.out
    have hnc83 := NB407_422.out
    have hnb84 := NB422_408.out
    have hnc84 := NB408_422.out
    have hcz85_0 : w25.cell? ⟨gb422, 0, none⟩ = some (.int .i64 0) := (blk_cell BK422.out 0).trans rfl
    have hcz85_1 : w25.cell? ⟨gb422, 1, none⟩ = some (.int .i64 0) := (blk_cell BK422.out 1).trans rfl
    have hfz85_0 := blk_frozen BK422.out 0
    have hfz85_1 := blk_frozen BK422.out 1
    go_wp2
    go_meet
    case rel => exact ⟨_, ((t413 != t420)), (by first | rfl | (simp; done) | (simp [*]; done)), H', ⟨by first | omega | exact Nat.le_refl _⟩, ⟨by (with_reducible repeat (first | refine blk_drewN ?_ _ | refine blk_drew ?_ | refine blk_alloc ?_ _)); refine blk_far ?_ NB407_422.out _; (with_reducible repeat (first | refine blk_drewN ?_ _ | refine blk_drew ?_ | refine blk_alloc ?_ _)); refine blk_far ?_ NB407_422.out _; (with_reducible repeat (first | refine blk_drewN ?_ _ | refine blk_drew ?_ | refine blk_alloc ?_ _)); refine blk_far ?_ NB407_421.out _; (with_reducible repeat (first | refine blk_drewN ?_ _ | refine blk_drew ?_ | refine blk_alloc ?_ _)); refine blk_far ?_ NB407_421.out _; (with_reducible repeat (first | refine blk_drewN ?_ _ | refine blk_drew ?_ | refine blk_alloc ?_ _)); exact BK407.out⟩, ⟨by (with_reducible repeat (first | refine blk_drewN ?_ _ | refine blk_drew ?_ | refine blk_alloc ?_ _)); refine blk_far ?_ NB408_422.out _; (with_reducible repeat (first | refine blk_drewN ?_ _ | refine blk_drew ?_ | refine blk_alloc ?_ _)); refine blk_far ?_ NB408_422.out _; (with_reducible repeat (first | refine blk_drewN ?_ _ | refine blk_drew ?_ | refine blk_alloc ?_ _)); refine blk_far ?_ NB408_421.out _; (with_reducible repeat (first | refine blk_drewN ?_ _ | refine blk_drew ?_ | refine blk_alloc ?_ _)); refine blk_far ?_ NB408_421.out _; (with_reducible repeat (first | refine blk_drewN ?_ _ | refine blk_drew ?_ | refine blk_alloc ?_ _)); exact BK408.out⟩, ⟨by (with_reducible repeat (first | refine blk_drewN ?_ _ | refine blk_drew ?_ | refine blk_alloc ?_ _)); refine blk_far ?_ NB414_422.out _; (with_reducible repeat (first | refine blk_drewN ?_ _ | refine blk_drew ?_ | refine blk_alloc ?_ _)); refine blk_far ?_ NB414_422.out _; (with_reducible repeat (first | refine blk_drewN ?_ _ | refine blk_drew ?_ | refine blk_alloc ?_ _)); refine blk_far ?_ NB414_421.out _; (with_reducible repeat (first | refine blk_drewN ?_ _ | refine blk_drew ?_ | refine blk_alloc ?_ _)); refine blk_far ?_ NB414_421.out _; (with_reducible repeat (first | refine blk_drewN ?_ _ | refine blk_drew ?_ | refine blk_alloc ?_ _)); exact BK414.out⟩, ⟨by (with_reducible repeat (first | refine blk_drewN ?_ _ | refine blk_drew ?_ | refine blk_alloc ?_ _)); refine blk_far ?_ NB415_422.out _; (with_reducible repeat (first | refine blk_drewN ?_ _ | refine blk_drew ?_ | refine blk_alloc ?_ _)); refine blk_far ?_ NB415_422.out _; (with_reducible repeat (first | refine blk_drewN ?_ _ | refine blk_drew ?_ | refine blk_alloc ?_ _)); refine blk_far ?_ NB415_421.out _; (with_reducible repeat (first | refine blk_drewN ?_ _ | refine blk_drew ?_ | refine blk_alloc ?_ _)); refine blk_far ?_ NB415_421.out _; (with_reducible repeat (first | refine blk_drewN ?_ _ | refine blk_drew ?_ | refine blk_alloc ?_ _)); exact BK415.out⟩, ⟨by (with_reducible repeat (first | refine blk_drewN ?_ _ | refine blk_drew ?_ | refine blk_alloc ?_ _)); refine blk_far ?_ NB421_422.out _; (with_reducible repeat (first | refine blk_drewN ?_ _ | refine blk_drew ?_ | refine blk_alloc ?_ _)); refine blk_far ?_ NB421_422.out _; (with_reducible repeat (first | refine blk_drewN ?_ _ | refine blk_drew ?_ | refine blk_alloc ?_ _)); refine blk_put (cs := #[.int .i64 t416, .int .i64 0]) ?_ 1 _ rfl; (with_reducible repeat (first | refine blk_drewN ?_ _ | refine blk_drew ?_ | refine blk_alloc ?_ _)); refine blk_put (cs := #[.int .i64 0, .int .i64 0]) ?_ 0 _ rfl; (with_reducible repeat (first | refine blk_drewN ?_ _ | refine blk_drew ?_ | refine blk_alloc ?_ _)); exact BK421.out⟩, ⟨by (with_reducible repeat (first | refine blk_drewN ?_ _ | refine blk_drew ?_ | refine blk_alloc ?_ _)); refine blk_put (cs := #[.int .i64 t418, .int .i64 0]) ?_ 1 _ rfl; (with_reducible repeat (first | refine blk_drewN ?_ _ | refine blk_drew ?_ | refine blk_alloc ?_ _)); refine blk_put (cs := #[.int .i64 0, .int .i64 0]) ?_ 0 _ rfl; (with_reducible repeat (first | refine blk_drewN ?_ _ | refine blk_drew ?_ | refine blk_alloc ?_ _)); refine blk_far ?_ NB422_421.out _; (with_reducible repeat (first | refine blk_drewN ?_ _ | refine blk_drew ?_ | refine blk_alloc ?_ _)); refine blk_far ?_ NB422_421.out _; (with_reducible repeat (first | refine blk_drewN ?_ _ | refine blk_drew ?_ | refine blk_alloc ?_ _)); exact BK422.out⟩, ⟨bl_ HB.out⟩⟩
 case rest =>
  clear HC5
  try clear c1
  try clear c2
  try clear p2
  try clear c3
  try clear c4
  try clear c5
  try clear c6
  try clear c7
  try clear c8
  try clear c14
  try clear c15
  try clear c16
  try clear c18
  try clear c19
  try clear c26
  try clear c27
  try clear c28
  try clear c29
  try clear c30
  try clear c32
  try clear c33
  try clear c34
  try clear c35
  try clear c37
  try clear c37b0
  try clear c38
  try clear c39
  try clear c40
  try clear c41
  try clear c42
  try clear c44
  try clear c45
  try clear c46
  try clear c47
  try clear c49
  try clear c49b0
  try clear c50
  try clear c51
  try clear c52
  try clear c53
  try clear c54
  try clear c56
  try clear c57
  try clear c58
  try clear c59
  try clear c61
  try clear c62
  try clear c63
  try clear c65
  try clear c66
  try clear c68
  try clear c69
  try clear c70
  try clear c71
  try clear c72
  try clear c74
  try clear c75
  try clear c76
  try clear c77
  try clear c79
  try clear c80
  try clear c81
  try clear c82
  try clear c83
  try clear c84
  try clear hcz10_0
  try clear hcz10_1
  try clear hcz10_2
  try clear hcz10_3
  try clear hcz10_4
  try clear hcz10_5
  try clear hcz17_0
  try clear hcz17_1
  try clear hcz20_0
  try clear hcz20_1
  try clear hcz21_0
  try clear hcz21_1
  try clear hcz21_2
  try clear hcz22_0
  try clear hcz22_1
  try clear hcz22_2
  try clear hcz22_3
  try clear hcz22_4
  try clear hcz22_5
  try clear hcz31_0
  try clear hcz31_1
  try clear hcz36_0
  try clear hcz36_1
  try clear hcz43_0
  try clear hcz43_1
  try clear hcz48_0
  try clear hcz48_1
  try clear hcz55_0
  try clear hcz55_1
  try clear hcz60_0
  try clear hcz60_1
  try clear hcz64_0
  try clear hcz64_1
  try clear hcz67_0
  try clear hcz67_1
  try clear hcz73_0
  try clear hcz73_1
  try clear hcz78_0
  try clear hcz78_1
  try clear hcz82_0
  try clear hcz82_1
  try clear hcz85_0
  try clear hcz85_1
  try clear hcz9_0
  try clear hcz9_1
  try clear hcz9_2
  try clear hfz10_0
  try clear hfz10_1
  try clear hfz10_2
  try clear hfz10_3
  try clear hfz10_4
  try clear hfz10_5
  try clear hfz17_0
  try clear hfz17_1
  try clear hfz20_0
  try clear hfz20_1
  try clear hfz21_0
  try clear hfz21_1
  try clear hfz21_2
  try clear hfz22_0
  try clear hfz22_1
  try clear hfz22_2
  try clear hfz22_3
  try clear hfz22_4
  try clear hfz22_5
  try clear hfz31_0
  try clear hfz31_1
  try clear hfz36_0
  try clear hfz36_1
  try clear hfz43_0
  try clear hfz43_1
  try clear hfz48_0
  try clear hfz48_1
  try clear hfz55_0
  try clear hfz55_1
  try clear hfz60_0
  try clear hfz60_1
  try clear hfz64_0
  try clear hfz64_1
  try clear hfz67_0
  try clear hfz67_1
  try clear hfz73_0
  try clear hfz73_1
  try clear hfz78_0
  try clear hfz78_1
  try clear hfz82_0
  try clear hfz82_1
  try clear hfz85_0
  try clear hfz85_1
  try clear hfz9_0
  try clear hfz9_1
  try clear hfz9_2
  obtain ⟨kq, x54_4, rfl, HA, HJ4, BK407, BK408, BK414, BK415, BK421, BK422, HB⟩ := hcut
  cases kq with
  | zero => exact absurd HA.out (by simp [swashplatelaw07_SlingReaches.j0])
  | succ kj4 =>
   have H := HA.out
   clear HA
   simp only [swashplatelaw07_SlingReaches.j0] at H
   by_cases c86 : x54_4 = true
   ·
    subst c86
    have H1 : (some false) = some r := by rw [if_pos rfl] at H; exact H
    clear H
    have H := H1
    clear H1
    obtain rfl := Option.some.inj H
    go_wp2
    go_ret
    exact ⟨by first | rfl | (simp [errW_none, errW_some] <;> rfl) | (simp [*, errW_none, errW_some] <;> rfl), bl_ HB.out⟩
   ·
    replace c86 := Bool.eq_false_iff.mpr c86
    subst c86
    have H1 : (swashplatelaw07_SlingReaches.l0 kj4 0 a0_0 a0_1 a0_2 l1_0 a1_1 a1_2 a1_3 a1_4 a1_5) = some r := by rw [if_neg (show ¬ (false = true) by decide)] at H; exact H
    clear H
    have H := H1
    clear H1
    have H' := Aside0.mk H
    clear H
    go_wp2
    go_loopg [11] kj4 (fun kq v11 w' => ∃ (x11_2 : Int), v11 = .int .i64 x11_2 ∧ Aside0 (swashplatelaw07_SlingReaches.l0 kq x11_2 a0_0 a0_1 a0_2 l1_0 a1_1 a1_2 a1_3 a1_4 a1_5 = some r) ∧ Aside0 (kq ≤ kj4) ∧ Aside0 (w'.heap[gb407]? = some (.cells #[.int .i64 a0_0, .int .i64 a0_1, .int .i64 a0_2] 105 (0, 0))) ∧ Aside0 (w'.heap[gb408]? = some (.cells #[(.slice A1_0 l1_0.length c1_0), .int .i64 a1_1, .int .i64 a1_2, .int .i64 a1_3, .int .i64 a1_4, .int .i64 a1_5] 122 (0, 0))) ∧ Aside0 (w'.heap[gb414]? = some (.cells #[.int .i64 t409, .int .i64 t410] 28 (0, 0))) ∧ Aside0 (w'.heap[gb415]? = some (.cells #[.int .i64 t411, .int .i64 t412] 28 (0, 0))) ∧ Aside0 (w'.heap[gb421]? = some (.cells #[.int .i64 t416, .int .i64 t417] 28 (0, 0))) ∧ Aside0 (w'.heap[gb422]? = some (.cells #[.int .i64 t418, .int .i64 t419] 28 (0, 0))) ∧ Aside0 (Below w.heap.size w w'))
    case atStart => exact ⟨(0), (by first | rfl | (simp; done) | (simp [*]; done)), H', ⟨Nat.le_refl _⟩, ⟨bk_ BK407.out⟩, ⟨bk_ BK408.out⟩, ⟨bk_ BK414.out⟩, ⟨bk_ BK415.out⟩, ⟨bk_ BK421.out⟩, ⟨bk_ BK422.out⟩, ⟨bl_ HB.out⟩⟩
    case round =>
     clear H'
     try clear c1
     try clear c2
     try clear p2
     try clear c3
     try clear c4
     try clear c5
     try clear c6
     try clear c7
     try clear c8
     try clear c14
     try clear c15
     try clear c16
     try clear c18
     try clear c19
     try clear c26
     try clear c27
     try clear c28
     try clear c29
     try clear c30
     try clear c32
     try clear c33
     try clear c34
     try clear c35
     try clear c37
     try clear c37b0
     try clear c38
     try clear c39
     try clear c40
     try clear c41
     try clear c42
     try clear c44
     try clear c45
     try clear c46
     try clear c47
     try clear c49
     try clear c49b0
     try clear c50
     try clear c51
     try clear c52
     try clear c53
     try clear c54
     try clear c56
     try clear c57
     try clear c58
     try clear c59
     try clear c61
     try clear c62
     try clear c63
     try clear c65
     try clear c66
     try clear c68
     try clear c69
     try clear c70
     try clear c71
     try clear c72
     try clear c74
     try clear c75
     try clear c76
     try clear c77
     try clear c79
     try clear c80
     try clear c81
     try clear c82
     try clear c83
     try clear c84
     try clear c86
     try clear hcz10_0
     try clear hcz10_1
     try clear hcz10_2
     try clear hcz10_3
     try clear hcz10_4
     try clear hcz10_5
     try clear hcz17_0
     try clear hcz17_1
     try clear hcz20_0
     try clear hcz20_1
     try clear hcz21_0
     try clear hcz21_1
     try clear hcz21_2
     try clear hcz22_0
     try clear hcz22_1
     try clear hcz22_2
     try clear hcz22_3
     try clear hcz22_4
     try clear hcz22_5
     try clear hcz31_0
     try clear hcz31_1
     try clear hcz36_0
     try clear hcz36_1
     try clear hcz43_0
     try clear hcz43_1
     try clear hcz48_0
     try clear hcz48_1
     try clear hcz55_0
     try clear hcz55_1
     try clear hcz60_0
     try clear hcz60_1
     try clear hcz64_0
     try clear hcz64_1
     try clear hcz67_0
     try clear hcz67_1
     try clear hcz73_0
     try clear hcz73_1
     try clear hcz78_0
     try clear hcz78_1
     try clear hcz82_0
     try clear hcz82_1
     try clear hcz85_0
     try clear hcz85_1
     try clear hcz9_0
     try clear hcz9_1
     try clear hcz9_2
     try clear hfz10_0
     try clear hfz10_1
     try clear hfz10_2
     try clear hfz10_3
     try clear hfz10_4
     try clear hfz10_5
     try clear hfz17_0
     try clear hfz17_1
     try clear hfz20_0
     try clear hfz20_1
     try clear hfz21_0
     try clear hfz21_1
     try clear hfz21_2
     try clear hfz22_0
     try clear hfz22_1
     try clear hfz22_2
     try clear hfz22_3
     try clear hfz22_4
     try clear hfz22_5
     try clear hfz31_0
     try clear hfz31_1
     try clear hfz36_0
     try clear hfz36_1
     try clear hfz43_0
     try clear hfz43_1
     try clear hfz48_0
     try clear hfz48_1
     try clear hfz55_0
     try clear hfz55_1
     try clear hfz60_0
     try clear hfz60_1
     try clear hfz64_0
     try clear hfz64_1
     try clear hfz67_0
     try clear hfz67_1
     try clear hfz73_0
     try clear hfz73_1
     try clear hfz78_0
     try clear hfz78_1
     try clear hfz82_0
     try clear hfz82_1
     try clear hfz85_0
     try clear hfz85_1
     try clear hfz9_0
     try clear hfz9_1
     try clear hfz9_2
     try clear p2
     obtain ⟨x11_2, rfl, HA, HK2, BK407, BK408, BK414, BK415, BK421, BK422, HB⟩ := hrel
     cases gk with
     | zero => exact absurd HA.out (by simp [swashplatelaw07_SlingReaches.l0])
     | succ k2 =>
      have H := HA.out
      clear HA
      simp only [swashplatelaw07_SlingReaches.l0] at H
      by_cases c87 : x11_2 < 2
      ·
       rw [if_pos c87] at H
       have c87b0 : decide (x11_2 < 2) = true := decide_eq_true c87
       clear c87
       replace H := Option.bind_eq_some_iff.mp H
       obtain ⟨⟨t424, t425, t426, t429⟩, A880, H⟩ := H
       replace H : ((swashplateref07_Witness.f k2 a0_0 a0_1 a0_2 l1_0 a1_1 a1_2 a1_5 (x11_2 == 1)).bind fun bt431 => (if (!(t424 == bt431.1) || (!(t425 == bt431.2.1))) = true then (some false) else (if t429 = bt431.2.2.2 then ((swashplatelaw07_sameInts.f k2 t426 bt431.2.2.1).bind fun t438 => (if t438 = true then (swashplatelaw07_SlingReaches.l0 k2 (wrap64 (x11_2 + 1)) a0_0 a0_1 a0_2 l1_0 a1_1 a1_2 a1_3 a1_4 a1_5) else (some false))) else (some false)))) = some r := H
       have A88 := Aside0.mk A880
       clear A880
       replace H := Option.bind_eq_some_iff.mp H
       obtain ⟨⟨t431, t432, t433, t436⟩, A890, H⟩ := H
       replace H : (if (!(t424 == t431) || (!(t425 == t432))) = true then (some false) else (if t429 = t436 then ((swashplatelaw07_sameInts.f k2 t426 t433).bind fun t438 => (if t438 = true then (swashplatelaw07_SlingReaches.l0 k2 (wrap64 (x11_2 + 1)) a0_0 a0_1 a0_2 l1_0 a1_1 a1_2 a1_3 a1_4 a1_5) else (some false))) else (some false))) = some r := H
       have A89 := Aside0.mk A890
       clear A890
       by_cases c90 : (!(t424 == t431) || (!(t425 == t432))) = true
       ·
        rw [if_pos c90] at H
        have c90b0 : (!(t424 == t431) || (!(t425 == t432))) = true := c90
        clear c90
        obtain rfl := Option.some.inj H
        have hnb91 := NB407_408.out
        have hnc91 := NB408_407.out
        have hnb92 := NB407_414.out
        have hnc92 := NB414_407.out
        have hnb93 := NB407_415.out
        have hnc93 := NB415_407.out
        have hnb94 := NB407_421.out
        have hnc94 := NB421_407.out
        have hnb95 := NB407_422.out
        have hnc95 := NB422_407.out
        have hcz96_0 : wr.cell? ⟨gb407, 0, none⟩ = some (.int .i64 a0_0) := (blk_cell BK407.out 0).trans rfl
        have hcz96_1 : wr.cell? ⟨gb407, 1, none⟩ = some (.int .i64 a0_1) := (blk_cell BK407.out 1).trans rfl
        have hcz96_2 : wr.cell? ⟨gb407, 2, none⟩ = some (.int .i64 a0_2) := (blk_cell BK407.out 2).trans rfl
        have hfz96_0 := blk_frozen BK407.out 0
        have hfz96_1 := blk_frozen BK407.out 1
        have hfz96_2 := blk_frozen BK407.out 2
        have hnb97 := NB408_414.out
        have hnc97 := NB414_408.out
        have hnb98 := NB408_415.out
        have hnc98 := NB415_408.out
        have hnb99 := NB408_421.out
        have hnc99 := NB421_408.out
        have hnb100 := NB408_422.out
        have hnc100 := NB422_408.out
        have hcz101_0 : wr.cell? ⟨gb408, 0, none⟩ = some (.slice A1_0 l1_0.length c1_0) := (blk_cell BK408.out 0).trans rfl
        have hcz101_1 : wr.cell? ⟨gb408, 1, none⟩ = some (.int .i64 a1_1) := (blk_cell BK408.out 1).trans rfl
        have hcz101_2 : wr.cell? ⟨gb408, 2, none⟩ = some (.int .i64 a1_2) := (blk_cell BK408.out 2).trans rfl
        have hcz101_3 : wr.cell? ⟨gb408, 3, none⟩ = some (.int .i64 a1_3) := (blk_cell BK408.out 3).trans rfl
        have hcz101_4 : wr.cell? ⟨gb408, 4, none⟩ = some (.int .i64 a1_4) := (blk_cell BK408.out 4).trans rfl
        have hcz101_5 : wr.cell? ⟨gb408, 5, none⟩ = some (.int .i64 a1_5) := (blk_cell BK408.out 5).trans rfl
        have hfz101_0 := blk_frozen BK408.out 0
        have hfz101_1 := blk_frozen BK408.out 1
        have hfz101_2 := blk_frozen BK408.out 2
        have hfz101_3 := blk_frozen BK408.out 3
        have hfz101_4 := blk_frozen BK408.out 4
        have hfz101_5 := blk_frozen BK408.out 5
        go_wp2_with (first | ((with_reducible refine gate_callee (f := 83) rfl ?_); refine goesL_ (some 69) rfl rfl Try.func83 (by kernel_rfl) rfl #[.agg #[.int .i64 a0_0, .int .i64 a0_1, .int .i64 a0_2], .slice A1_0 l1_0.length c1_0, .agg #[.int .i64 a1_1, .int .i64 a1_2], .int .i64 a1_5, .bool (x11_2 == 1)] rfl (by (try simp only [List.map_toArray, List.map_cons, List.map_nil]); first | done | rfl | (simp only [List.length_drop, List.length_take]; rfl)) ?_; (with_reducible refine (sling_Witness.calls a0_0 a0_1 a0_2 _ _ l1_0 a1_1 a1_2 a1_5 (x11_2 == 1) t424 t425 t426 t429 _ ?side1 ?side2 A88.out).mono ?_); (case side1 => exact cr_ (Kd.C_below HR1_0.out HB.out)); (case side2 => exact HC1_0.out); rintro e w102 ⟨v427, rfl, ho0, hb⟩; refine ⟨_, rfl, ?_⟩; have n0_ := Aside0.mk (Kd.R_lower ho0 (below_size (bl_ HB.out))); have n1_ := Aside0.mk (blk_below (bk_ BK407.out) hb); have n2_ := Aside0.mk (blk_below (bk_ BK408.out) hb); have n3_ := Aside0.mk (blk_below (bk_ BK414.out) hb); have n4_ := Aside0.mk (blk_below (bk_ BK415.out) hb); have n5_ := Aside0.mk (blk_below (bk_ BK421.out) hb); have n6_ := Aside0.mk (blk_below (bk_ BK422.out) hb); have n7_ := Aside0.mk (below_step (bl_ HB.out) hb); clear BK407 BK408 BK414 BK415 BK421 BK422 HB; have HO428 := n0_; have BK407 := n1_; have BK408 := n2_; have BK414 := n3_; have BK415 := n4_; have BK421 := n5_; have BK422 := n6_; have HB := n7_; clear n0_ n1_ n2_ n3_ n4_ n5_ n6_ n7_; (try clear hb); (try clear hb2); (try clear hk); (try clear hi); (try clear ho0)) | ((with_reducible refine gate_dst (N := 12) rfl ?_); refine box_event ?hg (N := 12) ?hd (cs := #[.int .i64 0, .int .i64 0]) (t := 28) ?hr ?_; (case hd => rfl); (case hg => rfl); (case hr => first | (go_simp; done) | (go_simp; rfl)); intro gb430 hg w103 hbox hb; have n0_ := Aside0.mk (Kd.R_below (by (with_reducible repeat (first | apply Kd.R_alloc | apply Kd.R_drewN | apply Kd.R_drew)); exact HO428.out) hb); have n1_ := Aside0.mk (blk_below (bk_ BK407.out) hb); have n2_ := Aside0.mk (blk_below (bk_ BK408.out) hb); have n3_ := Aside0.mk (blk_below (bk_ BK414.out) hb); have n4_ := Aside0.mk (blk_below (bk_ BK415.out) hb); have n5_ := Aside0.mk (blk_below (bk_ BK421.out) hb); have n6_ := Aside0.mk (blk_below (bk_ BK422.out) hb); have n7_ := Aside0.mk (below_step (bl_ HB.out) hb); have n8_ := Aside0.mk (hbox); have n9_ := Aside0.mk (szl_ hg HB.out); have n10_ := Aside0.mk (szl_ hg HB.out); have n11_ := Aside0.mk (nel_ hg BK407.out); have n12_ := Aside0.mk (ner_ hg BK407.out); have n13_ := Aside0.mk (nel_ hg BK408.out); have n14_ := Aside0.mk (ner_ hg BK408.out); have n15_ := Aside0.mk (nel_ hg BK414.out); have n16_ := Aside0.mk (ner_ hg BK414.out); have n17_ := Aside0.mk (nel_ hg BK415.out); have n18_ := Aside0.mk (ner_ hg BK415.out); have n19_ := Aside0.mk (nel_ hg BK421.out); have n20_ := Aside0.mk (ner_ hg BK421.out); have n21_ := Aside0.mk (nel_ hg BK422.out); have n22_ := Aside0.mk (ner_ hg BK422.out); clear HO428 BK407 BK408 BK414 BK415 BK421 BK422 HB; have HO428 := n0_; have BK407 := n1_; have BK408 := n2_; have BK414 := n3_; have BK415 := n4_; have BK421 := n5_; have BK422 := n6_; have HB := n7_; have BK430 := n8_; have GW430 := n9_; have GE430 := n10_; have NB407_430 := n11_; have NB430_407 := n12_; have NB408_430 := n13_; have NB430_408 := n14_; have NB414_430 := n15_; have NB430_414 := n16_; have NB415_430 := n17_; have NB430_415 := n18_; have NB421_430 := n19_; have NB430_421 := n20_; have NB422_430 := n21_; have NB430_422 := n22_; clear n0_ n1_ n2_ n3_ n4_ n5_ n6_ n7_ n8_ n9_ n10_ n11_ n12_ n13_ n14_ n15_ n16_ n17_ n18_ n19_ n20_ n21_ n22_ hb hbox hg; have hnb104 := NB430_407.out; have hnc104 := NB407_430.out; have hnb105 := NB430_408.out; have hnc105 := NB408_430.out; have hnb106 := NB430_414.out; have hnc106 := NB414_430.out; have hnb107 := NB430_415.out; have hnc107 := NB415_430.out; have hnb108 := NB430_421.out; have hnc108 := NB421_430.out; have hnb109 := NB430_422.out; have hnc109 := NB422_430.out; have hcz110_0 : w103.cell? ⟨gb430, 0, none⟩ = some (.int .i64 0) := (blk_cell BK430.out 0).trans rfl; have hcz110_1 : w103.cell? ⟨gb430, 1, none⟩ = some (.int .i64 0) := (blk_cell BK430.out 1).trans rfl; have hfz110_0 := blk_frozen BK430.out 0; have hfz110_1 := blk_frozen BK430.out 1; have hcz111_0 : w103.cell? ⟨gb407, 0, none⟩ = some (.int .i64 a0_0) := (blk_cell BK407.out 0).trans rfl; have hcz111_1 : w103.cell? ⟨gb407, 1, none⟩ = some (.int .i64 a0_1) := (blk_cell BK407.out 1).trans rfl; have hcz111_2 : w103.cell? ⟨gb407, 2, none⟩ = some (.int .i64 a0_2) := (blk_cell BK407.out 2).trans rfl; have hfz111_0 := blk_frozen BK407.out 0; have hfz111_1 := blk_frozen BK407.out 1; have hfz111_2 := blk_frozen BK407.out 2; have hcz112_0 : w103.cell? ⟨gb408, 0, none⟩ = some (.slice A1_0 l1_0.length c1_0) := (blk_cell BK408.out 0).trans rfl; have hcz112_1 : w103.cell? ⟨gb408, 1, none⟩ = some (.int .i64 a1_1) := (blk_cell BK408.out 1).trans rfl; have hcz112_2 : w103.cell? ⟨gb408, 2, none⟩ = some (.int .i64 a1_2) := (blk_cell BK408.out 2).trans rfl; have hcz112_3 : w103.cell? ⟨gb408, 3, none⟩ = some (.int .i64 a1_3) := (blk_cell BK408.out 3).trans rfl; have hcz112_4 : w103.cell? ⟨gb408, 4, none⟩ = some (.int .i64 a1_4) := (blk_cell BK408.out 4).trans rfl; have hcz112_5 : w103.cell? ⟨gb408, 5, none⟩ = some (.int .i64 a1_5) := (blk_cell BK408.out 5).trans rfl; have hfz112_0 := blk_frozen BK408.out 0; have hfz112_1 := blk_frozen BK408.out 1; have hfz112_2 := blk_frozen BK408.out 2; have hfz112_3 := blk_frozen BK408.out 3; have hfz112_4 := blk_frozen BK408.out 4; have hfz112_5 := blk_frozen BK408.out 5) | ((with_reducible refine gate_callee (f := 84) rfl ?_); refine goesL_ (some 83) rfl rfl Try.func84 (by kernel_rfl) rfl #[.agg #[.int .i64 a0_0, .int .i64 a0_1, .int .i64 a0_2], .slice A1_0 l1_0.length c1_0, .agg #[.int .i64 a1_1, .int .i64 a1_2], .int .i64 a1_5, .bool (x11_2 == 1)] rfl (by (try simp only [List.map_toArray, List.map_cons, List.map_nil]); first | done | rfl | (simp only [List.length_drop, List.length_take]; rfl)) ?_; (with_reducible refine (swashplateref07_Witness.calls k2 a0_0 a0_1 a0_2 _ _ l1_0 a1_1 a1_2 a1_5 (x11_2 == 1) t431 t432 t433 t436 _ ?side1 ?side2 A89.out).mono ?_); (case side1 => exact Kd.C_below HR1_0.out (bl_ HB.out)); (case side2 => exact HC1_0.out); rintro e w113 ⟨v434, rfl, ho0, hb⟩; refine ⟨_, rfl, ?_⟩; have n0_ := Aside0.mk (Kd.R_elder' (by (with_reducible repeat (first | apply Kd.R_alloc | apply Kd.R_drewN | apply Kd.R_drew)); exact (Kd.R_mono (Kd.R_far (p := ⟨gb430, 1, none⟩) (Kd.R_far (p := ⟨gb430, 0, none⟩) (Kd.R_types HO428.out BK430.out (by decide)) (fun _ hk => hk.2) (.int .i64 t424)) (fun _ hk => hk.2) (.int .i64 t425)) (fun _ h_ => h_.1))) (Kd.Q_base ho0) hb); have n1_ := Aside0.mk (Kd.Q_lower (Kd.Q_new' ho0 (Kd.R_lt (by (with_reducible repeat (first | apply Kd.R_alloc | apply Kd.R_drewN | apply Kd.R_drew)); exact (Kd.R_mono (Kd.R_far (p := ⟨gb430, 1, none⟩) (Kd.R_far (p := ⟨gb430, 0, none⟩) (Kd.R_types HO428.out BK430.out (by decide)) (fun _ hk => hk.2) (.int .i64 t424)) (fun _ hk => hk.2) (.int .i64 t425)) (fun _ h_ => h_.1))))) (below_size (bl_ HB.out))); have n2_ := Aside0.mk (blk_below (g := gb407) (o := .cells #[.int .i64 a0_0, .int .i64 a0_1, .int .i64 a0_2] 105 (0, 0)) (by (with_reducible repeat (first | refine blk_drewN ?_ _ | refine blk_drew ?_ | refine blk_alloc ?_ _)); refine blk_far ?_ NB407_430.out _; (with_reducible repeat (first | refine blk_drewN ?_ _ | refine blk_drew ?_ | refine blk_alloc ?_ _)); refine blk_far ?_ NB407_430.out _; (with_reducible repeat (first | refine blk_drewN ?_ _ | refine blk_drew ?_ | refine blk_alloc ?_ _)); exact BK407.out) hb); have n3_ := Aside0.mk (blk_below (g := gb408) (o := .cells #[.slice A1_0 l1_0.length c1_0, .int .i64 a1_1, .int .i64 a1_2, .int .i64 a1_3, .int .i64 a1_4, .int .i64 a1_5] 122 (0, 0)) (by (with_reducible repeat (first | refine blk_drewN ?_ _ | refine blk_drew ?_ | refine blk_alloc ?_ _)); refine blk_far ?_ NB408_430.out _; (with_reducible repeat (first | refine blk_drewN ?_ _ | refine blk_drew ?_ | refine blk_alloc ?_ _)); refine blk_far ?_ NB408_430.out _; (with_reducible repeat (first | refine blk_drewN ?_ _ | refine blk_drew ?_ | refine blk_alloc ?_ _)); exact BK408.out) hb); have n4_ := Aside0.mk (blk_below (g := gb414) (o := .cells #[.int .i64 t409, .int .i64 t410] 28 (0, 0)) (by (with_reducible repeat (first | refine blk_drewN ?_ _ | refine blk_drew ?_ | refine blk_alloc ?_ _)); refine blk_far ?_ NB414_430.out _; (with_reducible repeat (first | refine blk_drewN ?_ _ | refine blk_drew ?_ | refine blk_alloc ?_ _)); refine blk_far ?_ NB414_430.out _; (with_reducible repeat (first | refine blk_drewN ?_ _ | refine blk_drew ?_ | refine blk_alloc ?_ _)); exact BK414.out) hb); have n5_ := Aside0.mk (blk_below (g := gb415) (o := .cells #[.int .i64 t411, .int .i64 t412] 28 (0, 0)) (by (with_reducible repeat (first | refine blk_drewN ?_ _ | refine blk_drew ?_ | refine blk_alloc ?_ _)); refine blk_far ?_ NB415_430.out _; (with_reducible repeat (first | refine blk_drewN ?_ _ | refine blk_drew ?_ | refine blk_alloc ?_ _)); refine blk_far ?_ NB415_430.out _; (with_reducible repeat (first | refine blk_drewN ?_ _ | refine blk_drew ?_ | refine blk_alloc ?_ _)); exact BK415.out) hb); have n6_ := Aside0.mk (blk_below (g := gb421) (o := .cells #[.int .i64 t416, .int .i64 t417] 28 (0, 0)) (by (with_reducible repeat (first | refine blk_drewN ?_ _ | refine blk_drew ?_ | refine blk_alloc ?_ _)); refine blk_far ?_ NB421_430.out _; (with_reducible repeat (first | refine blk_drewN ?_ _ | refine blk_drew ?_ | refine blk_alloc ?_ _)); refine blk_far ?_ NB421_430.out _; (with_reducible repeat (first | refine blk_drewN ?_ _ | refine blk_drew ?_ | refine blk_alloc ?_ _)); exact BK421.out) hb); have n7_ := Aside0.mk (blk_below (g := gb422) (o := .cells #[.int .i64 t418, .int .i64 t419] 28 (0, 0)) (by (with_reducible repeat (first | refine blk_drewN ?_ _ | refine blk_drew ?_ | refine blk_alloc ?_ _)); refine blk_far ?_ NB422_430.out _; (with_reducible repeat (first | refine blk_drewN ?_ _ | refine blk_drew ?_ | refine blk_alloc ?_ _)); refine blk_far ?_ NB422_430.out _; (with_reducible repeat (first | refine blk_drewN ?_ _ | refine blk_drew ?_ | refine blk_alloc ?_ _)); exact BK422.out) hb); have n8_ := Aside0.mk (blk_below (g := gb430) (o := .cells #[.int .i64 t424, .int .i64 t425] 28 (0, 0)) (by (with_reducible repeat (first | refine blk_drewN ?_ _ | refine blk_drew ?_ | refine blk_alloc ?_ _)); refine blk_put (cs := #[.int .i64 t424, .int .i64 0]) ?_ 1 _ rfl; (with_reducible repeat (first | refine blk_drewN ?_ _ | refine blk_drew ?_ | refine blk_alloc ?_ _)); refine blk_put (cs := #[.int .i64 0, .int .i64 0]) ?_ 0 _ rfl; (with_reducible repeat (first | refine blk_drewN ?_ _ | refine blk_drew ?_ | refine blk_alloc ?_ _)); exact BK430.out) hb); have n9_ := Aside0.mk (below_step (bl_ HB.out) hb); clear HO428 BK407 BK408 BK414 BK415 BK421 BK422 BK430 HB; have HO428 := n0_; have HO435 := n1_; have BK407 := n2_; have BK408 := n3_; have BK414 := n4_; have BK415 := n5_; have BK421 := n6_; have BK422 := n7_; have BK430 := n8_; have HB := n9_; clear n0_ n1_ n2_ n3_ n4_ n5_ n6_ n7_ n8_ n9_; (try clear hb); (try clear hb2); (try clear hk); (try clear hi); (try clear ho0)) | ((with_reducible refine gate_dst (N := 15) rfl ?_); refine box_event ?hg (N := 15) ?hd (cs := #[.int .i64 0, .int .i64 0]) (t := 28) ?hr ?_; (case hd => rfl); (case hg => rfl); (case hr => first | (go_simp; done) | (go_simp; rfl)); intro gb437 hg w114 hbox hb; have n0_ := Aside0.mk (Kd.R_below (by (with_reducible repeat (first | apply Kd.R_alloc | apply Kd.R_drewN | apply Kd.R_drew)); exact HO428.out) hb); have n1_ := Aside0.mk (Kd.Q_below (by (with_reducible repeat (first | apply Kd.Q_alloc | apply Kd.Q_drewN | apply Kd.Q_drew)); exact HO435.out) hb); have n2_ := Aside0.mk (blk_below (bk_ BK407.out) hb); have n3_ := Aside0.mk (blk_below (bk_ BK408.out) hb); have n4_ := Aside0.mk (blk_below (bk_ BK414.out) hb); have n5_ := Aside0.mk (blk_below (bk_ BK415.out) hb); have n6_ := Aside0.mk (blk_below (bk_ BK421.out) hb); have n7_ := Aside0.mk (blk_below (bk_ BK422.out) hb); have n8_ := Aside0.mk (blk_below (bk_ BK430.out) hb); have n9_ := Aside0.mk (below_step (bl_ HB.out) hb); have n10_ := Aside0.mk (hbox); have n11_ := Aside0.mk (szl_ hg HB.out); have n12_ := Aside0.mk (szl_ hg HB.out); have n13_ := Aside0.mk (nel_ hg BK407.out); have n14_ := Aside0.mk (ner_ hg BK407.out); have n15_ := Aside0.mk (nel_ hg BK408.out); have n16_ := Aside0.mk (ner_ hg BK408.out); have n17_ := Aside0.mk (nel_ hg BK414.out); have n18_ := Aside0.mk (ner_ hg BK414.out); have n19_ := Aside0.mk (nel_ hg BK415.out); have n20_ := Aside0.mk (ner_ hg BK415.out); have n21_ := Aside0.mk (nel_ hg BK421.out); have n22_ := Aside0.mk (ner_ hg BK421.out); have n23_ := Aside0.mk (nel_ hg BK422.out); have n24_ := Aside0.mk (ner_ hg BK422.out); have n25_ := Aside0.mk (nel_ hg BK430.out); have n26_ := Aside0.mk (ner_ hg BK430.out); clear HO428 HO435 BK407 BK408 BK414 BK415 BK421 BK422 BK430 HB; have HO428 := n0_; have HO435 := n1_; have BK407 := n2_; have BK408 := n3_; have BK414 := n4_; have BK415 := n5_; have BK421 := n6_; have BK422 := n7_; have BK430 := n8_; have HB := n9_; have BK437 := n10_; have GW437 := n11_; have GE437 := n12_; have NB407_437 := n13_; have NB437_407 := n14_; have NB408_437 := n15_; have NB437_408 := n16_; have NB414_437 := n17_; have NB437_414 := n18_; have NB415_437 := n19_; have NB437_415 := n20_; have NB421_437 := n21_; have NB437_421 := n22_; have NB422_437 := n23_; have NB437_422 := n24_; have NB430_437 := n25_; have NB437_430 := n26_; clear n0_ n1_ n2_ n3_ n4_ n5_ n6_ n7_ n8_ n9_ n10_ n11_ n12_ n13_ n14_ n15_ n16_ n17_ n18_ n19_ n20_ n21_ n22_ n23_ n24_ n25_ n26_ hb hbox hg; have hnb115 := NB437_407.out; have hnc115 := NB407_437.out; have hnb116 := NB437_408.out; have hnc116 := NB408_437.out; have hnb117 := NB437_414.out; have hnc117 := NB414_437.out; have hnb118 := NB437_415.out; have hnc118 := NB415_437.out; have hnb119 := NB437_421.out; have hnc119 := NB421_437.out; have hnb120 := NB437_422.out; have hnc120 := NB422_437.out; have hnb121 := NB437_430.out; have hnc121 := NB430_437.out; have hcz122_0 : w114.cell? ⟨gb437, 0, none⟩ = some (.int .i64 0) := (blk_cell BK437.out 0).trans rfl; have hcz122_1 : w114.cell? ⟨gb437, 1, none⟩ = some (.int .i64 0) := (blk_cell BK437.out 1).trans rfl; have hfz122_0 := blk_frozen BK437.out 0; have hfz122_1 := blk_frozen BK437.out 1; have hcz123_0 : w114.cell? ⟨gb430, 0, none⟩ = some (.int .i64 t424) := (blk_cell BK430.out 0).trans rfl; have hcz123_1 : w114.cell? ⟨gb430, 1, none⟩ = some (.int .i64 t425) := (blk_cell BK430.out 1).trans rfl; have hfz123_0 := blk_frozen BK430.out 0; have hfz123_1 := blk_frozen BK430.out 1))
        go_ret
        exact ⟨by first | rfl | (simp [errW_none, errW_some] <;> rfl) | (simp [*, errW_none, errW_some] <;> rfl), bl_ HB.out⟩
       ·
        rw [if_neg c90] at H
        have c90b0 : (!(t424 == t431) || (!(t425 == t432))) = false := by simpa using c90
        clear c90
        by_cases c124 : t429 = t436
        ·
         rw [if_pos c124] at H
         have c124b0 : (t429 == t436) = true := beq_iff_eq.mpr c124
         have c124b1 : (t429 != t436) = false := bne_eq_false_iff_eq.mpr c124
         clear c124
         replace H := Option.bind_eq_some_iff.mp H
         obtain ⟨t438, A1250, H⟩ := H
         replace H : (if t438 = true then (swashplatelaw07_SlingReaches.l0 k2 (wrap64 (x11_2 + 1)) a0_0 a0_1 a0_2 l1_0 a1_1 a1_2 a1_3 a1_4 a1_5) else (some false)) = some r := H
         have A125 := Aside0.mk A1250
         clear A1250
         by_cases c126 : t438 = true
         ·
          subst c126
          have H1 : (swashplatelaw07_SlingReaches.l0 k2 (wrap64 (x11_2 + 1)) a0_0 a0_1 a0_2 l1_0 a1_1 a1_2 a1_3 a1_4 a1_5) = some r := by rw [if_pos rfl] at H; exact H
          clear H
          have H := H1
          clear H1
          have H' := Aside0.mk H
          clear H
          have hnb127 := NB407_408.out
          have hnc127 := NB408_407.out
          have hnb128 := NB407_414.out
          have hnc128 := NB414_407.out
          have hnb129 := NB407_415.out
          have hnc129 := NB415_407.out
          have hnb130 := NB407_421.out
          have hnc130 := NB421_407.out
          have hnb131 := NB407_422.out
          have hnc131 := NB422_407.out
          have hcz132_0 : wr.cell? ⟨gb407, 0, none⟩ = some (.int .i64 a0_0) := (blk_cell BK407.out 0).trans rfl
          have hcz132_1 : wr.cell? ⟨gb407, 1, none⟩ = some (.int .i64 a0_1) := (blk_cell BK407.out 1).trans rfl
          have hcz132_2 : wr.cell? ⟨gb407, 2, none⟩ = some (.int .i64 a0_2) := (blk_cell BK407.out 2).trans rfl
          have hfz132_0 := blk_frozen BK407.out 0
          have hfz132_1 := blk_frozen BK407.out 1
          have hfz132_2 := blk_frozen BK407.out 2
          have hnb133 := NB408_414.out
          have hnc133 := NB414_408.out
          have hnb134 := NB408_415.out
          have hnc134 := NB415_408.out
          have hnb135 := NB408_421.out
          have hnc135 := NB421_408.out
          have hnb136 := NB408_422.out
          have hnc136 := NB422_408.out
          have hcz137_0 : wr.cell? ⟨gb408, 0, none⟩ = some (.slice A1_0 l1_0.length c1_0) := (blk_cell BK408.out 0).trans rfl
          have hcz137_1 : wr.cell? ⟨gb408, 1, none⟩ = some (.int .i64 a1_1) := (blk_cell BK408.out 1).trans rfl
          have hcz137_2 : wr.cell? ⟨gb408, 2, none⟩ = some (.int .i64 a1_2) := (blk_cell BK408.out 2).trans rfl
          have hcz137_3 : wr.cell? ⟨gb408, 3, none⟩ = some (.int .i64 a1_3) := (blk_cell BK408.out 3).trans rfl
          have hcz137_4 : wr.cell? ⟨gb408, 4, none⟩ = some (.int .i64 a1_4) := (blk_cell BK408.out 4).trans rfl
          have hcz137_5 : wr.cell? ⟨gb408, 5, none⟩ = some (.int .i64 a1_5) := (blk_cell BK408.out 5).trans rfl
          have hfz137_0 := blk_frozen BK408.out 0
          have hfz137_1 := blk_frozen BK408.out 1
          have hfz137_2 := blk_frozen BK408.out 2
          have hfz137_3 := blk_frozen BK408.out 3
          have hfz137_4 := blk_frozen BK408.out 4
          have hfz137_5 := blk_frozen BK408.out 5
          go_wp2_with (first | ((with_reducible refine gate_callee (f := 83) rfl ?_); refine goesL_ (some 69) rfl rfl Try.func83 (by kernel_rfl) rfl #[.agg #[.int .i64 a0_0, .int .i64 a0_1, .int .i64 a0_2], .slice A1_0 l1_0.length c1_0, .agg #[.int .i64 a1_1, .int .i64 a1_2], .int .i64 a1_5, .bool (x11_2 == 1)] rfl (by (try simp only [List.map_toArray, List.map_cons, List.map_nil]); first | done | rfl | (simp only [List.length_drop, List.length_take]; rfl)) ?_; (with_reducible refine (sling_Witness.calls a0_0 a0_1 a0_2 _ _ l1_0 a1_1 a1_2 a1_5 (x11_2 == 1) t424 t425 t426 t429 _ ?side1 ?side2 A88.out).mono ?_); (case side1 => exact cr_ (Kd.C_below HR1_0.out HB.out)); (case side2 => exact HC1_0.out); rintro e w138 ⟨v427, rfl, ho0, hb⟩; refine ⟨_, rfl, ?_⟩; have n0_ := Aside0.mk (Kd.R_lower ho0 (below_size (bl_ HB.out))); have n1_ := Aside0.mk (blk_below (bk_ BK407.out) hb); have n2_ := Aside0.mk (blk_below (bk_ BK408.out) hb); have n3_ := Aside0.mk (blk_below (bk_ BK414.out) hb); have n4_ := Aside0.mk (blk_below (bk_ BK415.out) hb); have n5_ := Aside0.mk (blk_below (bk_ BK421.out) hb); have n6_ := Aside0.mk (blk_below (bk_ BK422.out) hb); have n7_ := Aside0.mk (below_step (bl_ HB.out) hb); clear BK407 BK408 BK414 BK415 BK421 BK422 HB; have HO428 := n0_; have BK407 := n1_; have BK408 := n2_; have BK414 := n3_; have BK415 := n4_; have BK421 := n5_; have BK422 := n6_; have HB := n7_; clear n0_ n1_ n2_ n3_ n4_ n5_ n6_ n7_; (try clear hb); (try clear hb2); (try clear hk); (try clear hi); (try clear ho0)) | ((with_reducible refine gate_dst (N := 12) rfl ?_); refine box_event ?hg (N := 12) ?hd (cs := #[.int .i64 0, .int .i64 0]) (t := 28) ?hr ?_; (case hd => rfl); (case hg => rfl); (case hr => first | (go_simp; done) | (go_simp; rfl)); intro gb430 hg w139 hbox hb; have n0_ := Aside0.mk (Kd.R_below (by (with_reducible repeat (first | apply Kd.R_alloc | apply Kd.R_drewN | apply Kd.R_drew)); exact HO428.out) hb); have n1_ := Aside0.mk (blk_below (bk_ BK407.out) hb); have n2_ := Aside0.mk (blk_below (bk_ BK408.out) hb); have n3_ := Aside0.mk (blk_below (bk_ BK414.out) hb); have n4_ := Aside0.mk (blk_below (bk_ BK415.out) hb); have n5_ := Aside0.mk (blk_below (bk_ BK421.out) hb); have n6_ := Aside0.mk (blk_below (bk_ BK422.out) hb); have n7_ := Aside0.mk (below_step (bl_ HB.out) hb); have n8_ := Aside0.mk (hbox); have n9_ := Aside0.mk (szl_ hg HB.out); have n10_ := Aside0.mk (szl_ hg HB.out); have n11_ := Aside0.mk (nel_ hg BK407.out); have n12_ := Aside0.mk (ner_ hg BK407.out); have n13_ := Aside0.mk (nel_ hg BK408.out); have n14_ := Aside0.mk (ner_ hg BK408.out); have n15_ := Aside0.mk (nel_ hg BK414.out); have n16_ := Aside0.mk (ner_ hg BK414.out); have n17_ := Aside0.mk (nel_ hg BK415.out); have n18_ := Aside0.mk (ner_ hg BK415.out); have n19_ := Aside0.mk (nel_ hg BK421.out); have n20_ := Aside0.mk (ner_ hg BK421.out); have n21_ := Aside0.mk (nel_ hg BK422.out); have n22_ := Aside0.mk (ner_ hg BK422.out); clear HO428 BK407 BK408 BK414 BK415 BK421 BK422 HB; have HO428 := n0_; have BK407 := n1_; have BK408 := n2_; have BK414 := n3_; have BK415 := n4_; have BK421 := n5_; have BK422 := n6_; have HB := n7_; have BK430 := n8_; have GW430 := n9_; have GE430 := n10_; have NB407_430 := n11_; have NB430_407 := n12_; have NB408_430 := n13_; have NB430_408 := n14_; have NB414_430 := n15_; have NB430_414 := n16_; have NB415_430 := n17_; have NB430_415 := n18_; have NB421_430 := n19_; have NB430_421 := n20_; have NB422_430 := n21_; have NB430_422 := n22_; clear n0_ n1_ n2_ n3_ n4_ n5_ n6_ n7_ n8_ n9_ n10_ n11_ n12_ n13_ n14_ n15_ n16_ n17_ n18_ n19_ n20_ n21_ n22_ hb hbox hg; have hnb140 := NB430_407.out; have hnc140 := NB407_430.out; have hnb141 := NB430_408.out; have hnc141 := NB408_430.out; have hnb142 := NB430_414.out; have hnc142 := NB414_430.out; have hnb143 := NB430_415.out; have hnc143 := NB415_430.out; have hnb144 := NB430_421.out; have hnc144 := NB421_430.out; have hnb145 := NB430_422.out; have hnc145 := NB422_430.out; have hcz146_0 : w139.cell? ⟨gb430, 0, none⟩ = some (.int .i64 0) := (blk_cell BK430.out 0).trans rfl; have hcz146_1 : w139.cell? ⟨gb430, 1, none⟩ = some (.int .i64 0) := (blk_cell BK430.out 1).trans rfl; have hfz146_0 := blk_frozen BK430.out 0; have hfz146_1 := blk_frozen BK430.out 1; have hcz147_0 : w139.cell? ⟨gb407, 0, none⟩ = some (.int .i64 a0_0) := (blk_cell BK407.out 0).trans rfl; have hcz147_1 : w139.cell? ⟨gb407, 1, none⟩ = some (.int .i64 a0_1) := (blk_cell BK407.out 1).trans rfl; have hcz147_2 : w139.cell? ⟨gb407, 2, none⟩ = some (.int .i64 a0_2) := (blk_cell BK407.out 2).trans rfl; have hfz147_0 := blk_frozen BK407.out 0; have hfz147_1 := blk_frozen BK407.out 1; have hfz147_2 := blk_frozen BK407.out 2; have hcz148_0 : w139.cell? ⟨gb408, 0, none⟩ = some (.slice A1_0 l1_0.length c1_0) := (blk_cell BK408.out 0).trans rfl; have hcz148_1 : w139.cell? ⟨gb408, 1, none⟩ = some (.int .i64 a1_1) := (blk_cell BK408.out 1).trans rfl; have hcz148_2 : w139.cell? ⟨gb408, 2, none⟩ = some (.int .i64 a1_2) := (blk_cell BK408.out 2).trans rfl; have hcz148_3 : w139.cell? ⟨gb408, 3, none⟩ = some (.int .i64 a1_3) := (blk_cell BK408.out 3).trans rfl; have hcz148_4 : w139.cell? ⟨gb408, 4, none⟩ = some (.int .i64 a1_4) := (blk_cell BK408.out 4).trans rfl; have hcz148_5 : w139.cell? ⟨gb408, 5, none⟩ = some (.int .i64 a1_5) := (blk_cell BK408.out 5).trans rfl; have hfz148_0 := blk_frozen BK408.out 0; have hfz148_1 := blk_frozen BK408.out 1; have hfz148_2 := blk_frozen BK408.out 2; have hfz148_3 := blk_frozen BK408.out 3; have hfz148_4 := blk_frozen BK408.out 4; have hfz148_5 := blk_frozen BK408.out 5) | ((with_reducible refine gate_callee (f := 84) rfl ?_); refine goesL_ (some 83) rfl rfl Try.func84 (by kernel_rfl) rfl #[.agg #[.int .i64 a0_0, .int .i64 a0_1, .int .i64 a0_2], .slice A1_0 l1_0.length c1_0, .agg #[.int .i64 a1_1, .int .i64 a1_2], .int .i64 a1_5, .bool (x11_2 == 1)] rfl (by (try simp only [List.map_toArray, List.map_cons, List.map_nil]); first | done | rfl | (simp only [List.length_drop, List.length_take]; rfl)) ?_; (with_reducible refine (swashplateref07_Witness.calls k2 a0_0 a0_1 a0_2 _ _ l1_0 a1_1 a1_2 a1_5 (x11_2 == 1) t431 t432 t433 t436 _ ?side1 ?side2 A89.out).mono ?_); (case side1 => exact Kd.C_below HR1_0.out (bl_ HB.out)); (case side2 => exact HC1_0.out); rintro e w149 ⟨v434, rfl, ho0, hb⟩; refine ⟨_, rfl, ?_⟩; have n0_ := Aside0.mk (Kd.R_elder' (by (with_reducible repeat (first | apply Kd.R_alloc | apply Kd.R_drewN | apply Kd.R_drew)); exact (Kd.R_mono (Kd.R_far (p := ⟨gb430, 1, none⟩) (Kd.R_far (p := ⟨gb430, 0, none⟩) (Kd.R_types HO428.out BK430.out (by decide)) (fun _ hk => hk.2) (.int .i64 t424)) (fun _ hk => hk.2) (.int .i64 t425)) (fun _ h_ => h_.1))) (Kd.Q_base ho0) hb); have n1_ := Aside0.mk (Kd.Q_lower (Kd.Q_new' ho0 (Kd.R_lt (by (with_reducible repeat (first | apply Kd.R_alloc | apply Kd.R_drewN | apply Kd.R_drew)); exact (Kd.R_mono (Kd.R_far (p := ⟨gb430, 1, none⟩) (Kd.R_far (p := ⟨gb430, 0, none⟩) (Kd.R_types HO428.out BK430.out (by decide)) (fun _ hk => hk.2) (.int .i64 t424)) (fun _ hk => hk.2) (.int .i64 t425)) (fun _ h_ => h_.1))))) (below_size (bl_ HB.out))); have n2_ := Aside0.mk (blk_below (g := gb407) (o := .cells #[.int .i64 a0_0, .int .i64 a0_1, .int .i64 a0_2] 105 (0, 0)) (by (with_reducible repeat (first | refine blk_drewN ?_ _ | refine blk_drew ?_ | refine blk_alloc ?_ _)); refine blk_far ?_ NB407_430.out _; (with_reducible repeat (first | refine blk_drewN ?_ _ | refine blk_drew ?_ | refine blk_alloc ?_ _)); refine blk_far ?_ NB407_430.out _; (with_reducible repeat (first | refine blk_drewN ?_ _ | refine blk_drew ?_ | refine blk_alloc ?_ _)); exact BK407.out) hb); have n3_ := Aside0.mk (blk_below (g := gb408) (o := .cells #[.slice A1_0 l1_0.length c1_0, .int .i64 a1_1, .int .i64 a1_2, .int .i64 a1_3, .int .i64 a1_4, .int .i64 a1_5] 122 (0, 0)) (by (with_reducible repeat (first | refine blk_drewN ?_ _ | refine blk_drew ?_ | refine blk_alloc ?_ _)); refine blk_far ?_ NB408_430.out _; (with_reducible repeat (first | refine blk_drewN ?_ _ | refine blk_drew ?_ | refine blk_alloc ?_ _)); refine blk_far ?_ NB408_430.out _; (with_reducible repeat (first | refine blk_drewN ?_ _ | refine blk_drew ?_ | refine blk_alloc ?_ _)); exact BK408.out) hb); have n4_ := Aside0.mk (blk_below (g := gb414) (o := .cells #[.int .i64 t409, .int .i64 t410] 28 (0, 0)) (by (with_reducible repeat (first | refine blk_drewN ?_ _ | refine blk_drew ?_ | refine blk_alloc ?_ _)); refine blk_far ?_ NB414_430.out _; (with_reducible repeat (first | refine blk_drewN ?_ _ | refine blk_drew ?_ | refine blk_alloc ?_ _)); refine blk_far ?_ NB414_430.out _; (with_reducible repeat (first | refine blk_drewN ?_ _ | refine blk_drew ?_ | refine blk_alloc ?_ _)); exact BK414.out) hb); have n5_ := Aside0.mk (blk_below (g := gb415) (o := .cells #[.int .i64 t411, .int .i64 t412] 28 (0, 0)) (by (with_reducible repeat (first | refine blk_drewN ?_ _ | refine blk_drew ?_ | refine blk_alloc ?_ _)); refine blk_far ?_ NB415_430.out _; (with_reducible repeat (first | refine blk_drewN ?_ _ | refine blk_drew ?_ | refine blk_alloc ?_ _)); refine blk_far ?_ NB415_430.out _; (with_reducible repeat (first | refine blk_drewN ?_ _ | refine blk_drew ?_ | refine blk_alloc ?_ _)); exact BK415.out) hb); have n6_ := Aside0.mk (blk_below (g := gb421) (o := .cells #[.int .i64 t416, .int .i64 t417] 28 (0, 0)) (by (with_reducible repeat (first | refine blk_drewN ?_ _ | refine blk_drew ?_ | refine blk_alloc ?_ _)); refine blk_far ?_ NB421_430.out _; (with_reducible repeat (first | refine blk_drewN ?_ _ | refine blk_drew ?_ | refine blk_alloc ?_ _)); refine blk_far ?_ NB421_430.out _; (with_reducible repeat (first | refine blk_drewN ?_ _ | refine blk_drew ?_ | refine blk_alloc ?_ _)); exact BK421.out) hb); have n7_ := Aside0.mk (blk_below (g := gb422) (o := .cells #[.int .i64 t418, .int .i64 t419] 28 (0, 0)) (by (with_reducible repeat (first | refine blk_drewN ?_ _ | refine blk_drew ?_ | refine blk_alloc ?_ _)); refine blk_far ?_ NB422_430.out _; (with_reducible repeat (first | refine blk_drewN ?_ _ | refine blk_drew ?_ | refine blk_alloc ?_ _)); refine blk_far ?_ NB422_430.out _; (with_reducible repeat (first | refine blk_drewN ?_ _ | refine blk_drew ?_ | refine blk_alloc ?_ _)); exact BK422.out) hb); have n8_ := Aside0.mk (blk_below (g := gb430) (o := .cells #[.int .i64 t424, .int .i64 t425] 28 (0, 0)) (by (with_reducible repeat (first | refine blk_drewN ?_ _ | refine blk_drew ?_ | refine blk_alloc ?_ _)); refine blk_put (cs := #[.int .i64 t424, .int .i64 0]) ?_ 1 _ rfl; (with_reducible repeat (first | refine blk_drewN ?_ _ | refine blk_drew ?_ | refine blk_alloc ?_ _)); refine blk_put (cs := #[.int .i64 0, .int .i64 0]) ?_ 0 _ rfl; (with_reducible repeat (first | refine blk_drewN ?_ _ | refine blk_drew ?_ | refine blk_alloc ?_ _)); exact BK430.out) hb); have n9_ := Aside0.mk (below_step (bl_ HB.out) hb); clear HO428 BK407 BK408 BK414 BK415 BK421 BK422 BK430 HB; have HO428 := n0_; have HO435 := n1_; have BK407 := n2_; have BK408 := n3_; have BK414 := n4_; have BK415 := n5_; have BK421 := n6_; have BK422 := n7_; have BK430 := n8_; have HB := n9_; clear n0_ n1_ n2_ n3_ n4_ n5_ n6_ n7_ n8_ n9_; (try clear hb); (try clear hb2); (try clear hk); (try clear hi); (try clear ho0)) | ((with_reducible refine gate_dst (N := 15) rfl ?_); refine box_event ?hg (N := 15) ?hd (cs := #[.int .i64 0, .int .i64 0]) (t := 28) ?hr ?_; (case hd => rfl); (case hg => rfl); (case hr => first | (go_simp; done) | (go_simp; rfl)); intro gb437 hg w150 hbox hb; have n0_ := Aside0.mk (Kd.R_below (by (with_reducible repeat (first | apply Kd.R_alloc | apply Kd.R_drewN | apply Kd.R_drew)); exact HO428.out) hb); have n1_ := Aside0.mk (Kd.Q_below (by (with_reducible repeat (first | apply Kd.Q_alloc | apply Kd.Q_drewN | apply Kd.Q_drew)); exact HO435.out) hb); have n2_ := Aside0.mk (blk_below (bk_ BK407.out) hb); have n3_ := Aside0.mk (blk_below (bk_ BK408.out) hb); have n4_ := Aside0.mk (blk_below (bk_ BK414.out) hb); have n5_ := Aside0.mk (blk_below (bk_ BK415.out) hb); have n6_ := Aside0.mk (blk_below (bk_ BK421.out) hb); have n7_ := Aside0.mk (blk_below (bk_ BK422.out) hb); have n8_ := Aside0.mk (blk_below (bk_ BK430.out) hb); have n9_ := Aside0.mk (below_step (bl_ HB.out) hb); have n10_ := Aside0.mk (hbox); have n11_ := Aside0.mk (szl_ hg HB.out); have n12_ := Aside0.mk (szl_ hg HB.out); have n13_ := Aside0.mk (nel_ hg BK407.out); have n14_ := Aside0.mk (ner_ hg BK407.out); have n15_ := Aside0.mk (nel_ hg BK408.out); have n16_ := Aside0.mk (ner_ hg BK408.out); have n17_ := Aside0.mk (nel_ hg BK414.out); have n18_ := Aside0.mk (ner_ hg BK414.out); have n19_ := Aside0.mk (nel_ hg BK415.out); have n20_ := Aside0.mk (ner_ hg BK415.out); have n21_ := Aside0.mk (nel_ hg BK421.out); have n22_ := Aside0.mk (ner_ hg BK421.out); have n23_ := Aside0.mk (nel_ hg BK422.out); have n24_ := Aside0.mk (ner_ hg BK422.out); have n25_ := Aside0.mk (nel_ hg BK430.out); have n26_ := Aside0.mk (ner_ hg BK430.out); clear HO428 HO435 BK407 BK408 BK414 BK415 BK421 BK422 BK430 HB; have HO428 := n0_; have HO435 := n1_; have BK407 := n2_; have BK408 := n3_; have BK414 := n4_; have BK415 := n5_; have BK421 := n6_; have BK422 := n7_; have BK430 := n8_; have HB := n9_; have BK437 := n10_; have GW437 := n11_; have GE437 := n12_; have NB407_437 := n13_; have NB437_407 := n14_; have NB408_437 := n15_; have NB437_408 := n16_; have NB414_437 := n17_; have NB437_414 := n18_; have NB415_437 := n19_; have NB437_415 := n20_; have NB421_437 := n21_; have NB437_421 := n22_; have NB422_437 := n23_; have NB437_422 := n24_; have NB430_437 := n25_; have NB437_430 := n26_; clear n0_ n1_ n2_ n3_ n4_ n5_ n6_ n7_ n8_ n9_ n10_ n11_ n12_ n13_ n14_ n15_ n16_ n17_ n18_ n19_ n20_ n21_ n22_ n23_ n24_ n25_ n26_ hb hbox hg; have hnb151 := NB437_407.out; have hnc151 := NB407_437.out; have hnb152 := NB437_408.out; have hnc152 := NB408_437.out; have hnb153 := NB437_414.out; have hnc153 := NB414_437.out; have hnb154 := NB437_415.out; have hnc154 := NB415_437.out; have hnb155 := NB437_421.out; have hnc155 := NB421_437.out; have hnb156 := NB437_422.out; have hnc156 := NB422_437.out; have hnb157 := NB437_430.out; have hnc157 := NB430_437.out; have hcz158_0 : w150.cell? ⟨gb437, 0, none⟩ = some (.int .i64 0) := (blk_cell BK437.out 0).trans rfl; have hcz158_1 : w150.cell? ⟨gb437, 1, none⟩ = some (.int .i64 0) := (blk_cell BK437.out 1).trans rfl; have hfz158_0 := blk_frozen BK437.out 0; have hfz158_1 := blk_frozen BK437.out 1; have hcz159_0 : w150.cell? ⟨gb430, 0, none⟩ = some (.int .i64 t424) := (blk_cell BK430.out 0).trans rfl; have hcz159_1 : w150.cell? ⟨gb430, 1, none⟩ = some (.int .i64 t425) := (blk_cell BK430.out 1).trans rfl; have hfz159_0 := blk_frozen BK430.out 0; have hfz159_1 := blk_frozen BK430.out 1; obtain ⟨Ao160, co160, eo160⟩ := Kd.R_slice HO428.out; subst eo160; obtain ⟨Ao161, co161, eo161, _⟩ := Kd.Q_slice HO435.out; subst eo161) | (go_at_call 85; (with_reducible refine (swashplatelaw07_sameInts.calls k2 _ _ t426 _ _ t433 true _ ?side1 ?side2 ?side3 ?side4 A125.out).mono ?_); (case side1 => refine (Kd.R_reads' (e := 3) (base := w.heap.size) (ok := fun k_ => (True ∧ some k_ ≠ (.slice Ao161 t433.length co161 : Value).ownBlock)) (n := t426.length) (c := co160) ?_).2.2; exact (by (with_reducible repeat (first | apply Kd.R_alloc | apply Kd.R_drewN | apply Kd.R_drew)); exact (Kd.R_mono (Kd.R_far (p := ⟨gb437, 1, none⟩) (Kd.R_far (p := ⟨gb437, 0, none⟩) (Kd.R_types HO428.out BK437.out (by decide)) (fun _ hk => hk.2) (.int .i64 t431)) (fun _ hk => hk.2) (.int .i64 t432)) (fun _ h_ => h_.1)))); (case side2 => exact (Kd.R_reads' HO428.out).2.1); (case side3 => refine (Kd.Q_reads' (e := 3) (base := w.heap.size) (ok := fun k_ => (True ∧ some k_ ≠ (.slice Ao160 t426.length co160 : Value).ownBlock)) (n := t433.length) (c := co161) ?_).2.2; exact (by (with_reducible repeat (first | apply Kd.Q_alloc | apply Kd.Q_drewN | apply Kd.Q_drew)); exact (Kd.Q_mono (Kd.Q_far (p := ⟨gb437, 1, none⟩) (Kd.Q_far (p := ⟨gb437, 0, none⟩) (Kd.Q_types HO435.out BK437.out (by decide)) (fun _ hk => hk.2) (.int .i64 t431)) (fun _ hk => hk.2) (.int .i64 t432)) (fun _ h_ => h_.1)))); (case side4 => exact (Kd.Q_reads' HO435.out).2.1); rintro e w' ⟨rfl, ⟨nd, rfl⟩⟩))
          go_roundg k2
          case measure => have := HJ4.out; have := HK2.out; omega
          case rel => exact ⟨(wrap64 (x11_2 + 1)), (by first | rfl | (simp; done) | (simp [*]; done)), H', ⟨by have := HJ4.out; have := HK2.out; omega⟩, ⟨by (with_reducible repeat (first | refine blk_drewN ?_ _ | refine blk_drew ?_ | refine blk_alloc ?_ _)); refine blk_far ?_ NB407_437.out _; (with_reducible repeat (first | refine blk_drewN ?_ _ | refine blk_drew ?_ | refine blk_alloc ?_ _)); refine blk_far ?_ NB407_437.out _; (with_reducible repeat (first | refine blk_drewN ?_ _ | refine blk_drew ?_ | refine blk_alloc ?_ _)); exact BK407.out⟩, ⟨by (with_reducible repeat (first | refine blk_drewN ?_ _ | refine blk_drew ?_ | refine blk_alloc ?_ _)); refine blk_far ?_ NB408_437.out _; (with_reducible repeat (first | refine blk_drewN ?_ _ | refine blk_drew ?_ | refine blk_alloc ?_ _)); refine blk_far ?_ NB408_437.out _; (with_reducible repeat (first | refine blk_drewN ?_ _ | refine blk_drew ?_ | refine blk_alloc ?_ _)); exact BK408.out⟩, ⟨by (with_reducible repeat (first | refine blk_drewN ?_ _ | refine blk_drew ?_ | refine blk_alloc ?_ _)); refine blk_far ?_ NB414_437.out _; (with_reducible repeat (first | refine blk_drewN ?_ _ | refine blk_drew ?_ | refine blk_alloc ?_ _)); refine blk_far ?_ NB414_437.out _; (with_reducible repeat (first | refine blk_drewN ?_ _ | refine blk_drew ?_ | refine blk_alloc ?_ _)); exact BK414.out⟩, ⟨by (with_reducible repeat (first | refine blk_drewN ?_ _ | refine blk_drew ?_ | refine blk_alloc ?_ _)); refine blk_far ?_ NB415_437.out _; (with_reducible repeat (first | refine blk_drewN ?_ _ | refine blk_drew ?_ | refine blk_alloc ?_ _)); refine blk_far ?_ NB415_437.out _; (with_reducible repeat (first | refine blk_drewN ?_ _ | refine blk_drew ?_ | refine blk_alloc ?_ _)); exact BK415.out⟩, ⟨by (with_reducible repeat (first | refine blk_drewN ?_ _ | refine blk_drew ?_ | refine blk_alloc ?_ _)); refine blk_far ?_ NB421_437.out _; (with_reducible repeat (first | refine blk_drewN ?_ _ | refine blk_drew ?_ | refine blk_alloc ?_ _)); refine blk_far ?_ NB421_437.out _; (with_reducible repeat (first | refine blk_drewN ?_ _ | refine blk_drew ?_ | refine blk_alloc ?_ _)); exact BK421.out⟩, ⟨by (with_reducible repeat (first | refine blk_drewN ?_ _ | refine blk_drew ?_ | refine blk_alloc ?_ _)); refine blk_far ?_ NB422_437.out _; (with_reducible repeat (first | refine blk_drewN ?_ _ | refine blk_drew ?_ | refine blk_alloc ?_ _)); refine blk_far ?_ NB422_437.out _; (with_reducible repeat (first | refine blk_drewN ?_ _ | refine blk_drew ?_ | refine blk_alloc ?_ _)); exact BK422.out⟩, ⟨bl_ HB.out⟩⟩
         ·
          replace c126 := Bool.eq_false_iff.mpr c126
          subst c126
          have H1 : (some false) = some r := by rw [if_neg (show ¬ (false = true) by decide)] at H; exact H
          clear H
          have H := H1
          clear H1
          obtain rfl := Option.some.inj H
          have hnb162 := NB407_408.out
          have hnc162 := NB408_407.out
          have hnb163 := NB407_414.out
          have hnc163 := NB414_407.out
          have hnb164 := NB407_415.out
          have hnc164 := NB415_407.out
          have hnb165 := NB407_421.out
          have hnc165 := NB421_407.out
          have hnb166 := NB407_422.out
          have hnc166 := NB422_407.out
          have hcz167_0 : wr.cell? ⟨gb407, 0, none⟩ = some (.int .i64 a0_0) := (blk_cell BK407.out 0).trans rfl
          have hcz167_1 : wr.cell? ⟨gb407, 1, none⟩ = some (.int .i64 a0_1) := (blk_cell BK407.out 1).trans rfl
          have hcz167_2 : wr.cell? ⟨gb407, 2, none⟩ = some (.int .i64 a0_2) := (blk_cell BK407.out 2).trans rfl
          have hfz167_0 := blk_frozen BK407.out 0
          have hfz167_1 := blk_frozen BK407.out 1
          have hfz167_2 := blk_frozen BK407.out 2
          have hnb168 := NB408_414.out
          have hnc168 := NB414_408.out
          have hnb169 := NB408_415.out
          have hnc169 := NB415_408.out
          have hnb170 := NB408_421.out
          have hnc170 := NB421_408.out
          have hnb171 := NB408_422.out
          have hnc171 := NB422_408.out
          have hcz172_0 : wr.cell? ⟨gb408, 0, none⟩ = some (.slice A1_0 l1_0.length c1_0) := (blk_cell BK408.out 0).trans rfl
          have hcz172_1 : wr.cell? ⟨gb408, 1, none⟩ = some (.int .i64 a1_1) := (blk_cell BK408.out 1).trans rfl
          have hcz172_2 : wr.cell? ⟨gb408, 2, none⟩ = some (.int .i64 a1_2) := (blk_cell BK408.out 2).trans rfl
          have hcz172_3 : wr.cell? ⟨gb408, 3, none⟩ = some (.int .i64 a1_3) := (blk_cell BK408.out 3).trans rfl
          have hcz172_4 : wr.cell? ⟨gb408, 4, none⟩ = some (.int .i64 a1_4) := (blk_cell BK408.out 4).trans rfl
          have hcz172_5 : wr.cell? ⟨gb408, 5, none⟩ = some (.int .i64 a1_5) := (blk_cell BK408.out 5).trans rfl
          have hfz172_0 := blk_frozen BK408.out 0
          have hfz172_1 := blk_frozen BK408.out 1
          have hfz172_2 := blk_frozen BK408.out 2
          have hfz172_3 := blk_frozen BK408.out 3
          have hfz172_4 := blk_frozen BK408.out 4
          have hfz172_5 := blk_frozen BK408.out 5
          go_wp2_with (first | ((with_reducible refine gate_callee (f := 83) rfl ?_); refine goesL_ (some 69) rfl rfl Try.func83 (by kernel_rfl) rfl #[.agg #[.int .i64 a0_0, .int .i64 a0_1, .int .i64 a0_2], .slice A1_0 l1_0.length c1_0, .agg #[.int .i64 a1_1, .int .i64 a1_2], .int .i64 a1_5, .bool (x11_2 == 1)] rfl (by (try simp only [List.map_toArray, List.map_cons, List.map_nil]); first | done | rfl | (simp only [List.length_drop, List.length_take]; rfl)) ?_; (with_reducible refine (sling_Witness.calls a0_0 a0_1 a0_2 _ _ l1_0 a1_1 a1_2 a1_5 (x11_2 == 1) t424 t425 t426 t429 _ ?side1 ?side2 A88.out).mono ?_); (case side1 => exact cr_ (Kd.C_below HR1_0.out HB.out)); (case side2 => exact HC1_0.out); rintro e w173 ⟨v427, rfl, ho0, hb⟩; refine ⟨_, rfl, ?_⟩; have n0_ := Aside0.mk (Kd.R_lower ho0 (below_size (bl_ HB.out))); have n1_ := Aside0.mk (blk_below (bk_ BK407.out) hb); have n2_ := Aside0.mk (blk_below (bk_ BK408.out) hb); have n3_ := Aside0.mk (blk_below (bk_ BK414.out) hb); have n4_ := Aside0.mk (blk_below (bk_ BK415.out) hb); have n5_ := Aside0.mk (blk_below (bk_ BK421.out) hb); have n6_ := Aside0.mk (blk_below (bk_ BK422.out) hb); have n7_ := Aside0.mk (below_step (bl_ HB.out) hb); clear BK407 BK408 BK414 BK415 BK421 BK422 HB; have HO428 := n0_; have BK407 := n1_; have BK408 := n2_; have BK414 := n3_; have BK415 := n4_; have BK421 := n5_; have BK422 := n6_; have HB := n7_; clear n0_ n1_ n2_ n3_ n4_ n5_ n6_ n7_; (try clear hb); (try clear hb2); (try clear hk); (try clear hi); (try clear ho0)) | ((with_reducible refine gate_dst (N := 12) rfl ?_); refine box_event ?hg (N := 12) ?hd (cs := #[.int .i64 0, .int .i64 0]) (t := 28) ?hr ?_; (case hd => rfl); (case hg => rfl); (case hr => first | (go_simp; done) | (go_simp; rfl)); intro gb430 hg w174 hbox hb; have n0_ := Aside0.mk (Kd.R_below (by (with_reducible repeat (first | apply Kd.R_alloc | apply Kd.R_drewN | apply Kd.R_drew)); exact HO428.out) hb); have n1_ := Aside0.mk (blk_below (bk_ BK407.out) hb); have n2_ := Aside0.mk (blk_below (bk_ BK408.out) hb); have n3_ := Aside0.mk (blk_below (bk_ BK414.out) hb); have n4_ := Aside0.mk (blk_below (bk_ BK415.out) hb); have n5_ := Aside0.mk (blk_below (bk_ BK421.out) hb); have n6_ := Aside0.mk (blk_below (bk_ BK422.out) hb); have n7_ := Aside0.mk (below_step (bl_ HB.out) hb); have n8_ := Aside0.mk (hbox); have n9_ := Aside0.mk (szl_ hg HB.out); have n10_ := Aside0.mk (szl_ hg HB.out); have n11_ := Aside0.mk (nel_ hg BK407.out); have n12_ := Aside0.mk (ner_ hg BK407.out); have n13_ := Aside0.mk (nel_ hg BK408.out); have n14_ := Aside0.mk (ner_ hg BK408.out); have n15_ := Aside0.mk (nel_ hg BK414.out); have n16_ := Aside0.mk (ner_ hg BK414.out); have n17_ := Aside0.mk (nel_ hg BK415.out); have n18_ := Aside0.mk (ner_ hg BK415.out); have n19_ := Aside0.mk (nel_ hg BK421.out); have n20_ := Aside0.mk (ner_ hg BK421.out); have n21_ := Aside0.mk (nel_ hg BK422.out); have n22_ := Aside0.mk (ner_ hg BK422.out); clear HO428 BK407 BK408 BK414 BK415 BK421 BK422 HB; have HO428 := n0_; have BK407 := n1_; have BK408 := n2_; have BK414 := n3_; have BK415 := n4_; have BK421 := n5_; have BK422 := n6_; have HB := n7_; have BK430 := n8_; have GW430 := n9_; have GE430 := n10_; have NB407_430 := n11_; have NB430_407 := n12_; have NB408_430 := n13_; have NB430_408 := n14_; have NB414_430 := n15_; have NB430_414 := n16_; have NB415_430 := n17_; have NB430_415 := n18_; have NB421_430 := n19_; have NB430_421 := n20_; have NB422_430 := n21_; have NB430_422 := n22_; clear n0_ n1_ n2_ n3_ n4_ n5_ n6_ n7_ n8_ n9_ n10_ n11_ n12_ n13_ n14_ n15_ n16_ n17_ n18_ n19_ n20_ n21_ n22_ hb hbox hg; have hnb175 := NB430_407.out; have hnc175 := NB407_430.out; have hnb176 := NB430_408.out; have hnc176 := NB408_430.out; have hnb177 := NB430_414.out; have hnc177 := NB414_430.out; have hnb178 := NB430_415.out; have hnc178 := NB415_430.out; have hnb179 := NB430_421.out; have hnc179 := NB421_430.out; have hnb180 := NB430_422.out; have hnc180 := NB422_430.out; have hcz181_0 : w174.cell? ⟨gb430, 0, none⟩ = some (.int .i64 0) := (blk_cell BK430.out 0).trans rfl; have hcz181_1 : w174.cell? ⟨gb430, 1, none⟩ = some (.int .i64 0) := (blk_cell BK430.out 1).trans rfl; have hfz181_0 := blk_frozen BK430.out 0; have hfz181_1 := blk_frozen BK430.out 1; have hcz182_0 : w174.cell? ⟨gb407, 0, none⟩ = some (.int .i64 a0_0) := (blk_cell BK407.out 0).trans rfl; have hcz182_1 : w174.cell? ⟨gb407, 1, none⟩ = some (.int .i64 a0_1) := (blk_cell BK407.out 1).trans rfl; have hcz182_2 : w174.cell? ⟨gb407, 2, none⟩ = some (.int .i64 a0_2) := (blk_cell BK407.out 2).trans rfl; have hfz182_0 := blk_frozen BK407.out 0; have hfz182_1 := blk_frozen BK407.out 1; have hfz182_2 := blk_frozen BK407.out 2; have hcz183_0 : w174.cell? ⟨gb408, 0, none⟩ = some (.slice A1_0 l1_0.length c1_0) := (blk_cell BK408.out 0).trans rfl; have hcz183_1 : w174.cell? ⟨gb408, 1, none⟩ = some (.int .i64 a1_1) := (blk_cell BK408.out 1).trans rfl; have hcz183_2 : w174.cell? ⟨gb408, 2, none⟩ = some (.int .i64 a1_2) := (blk_cell BK408.out 2).trans rfl; have hcz183_3 : w174.cell? ⟨gb408, 3, none⟩ = some (.int .i64 a1_3) := (blk_cell BK408.out 3).trans rfl; have hcz183_4 : w174.cell? ⟨gb408, 4, none⟩ = some (.int .i64 a1_4) := (blk_cell BK408.out 4).trans rfl; have hcz183_5 : w174.cell? ⟨gb408, 5, none⟩ = some (.int .i64 a1_5) := (blk_cell BK408.out 5).trans rfl; have hfz183_0 := blk_frozen BK408.out 0; have hfz183_1 := blk_frozen BK408.out 1; have hfz183_2 := blk_frozen BK408.out 2; have hfz183_3 := blk_frozen BK408.out 3; have hfz183_4 := blk_frozen BK408.out 4; have hfz183_5 := blk_frozen BK408.out 5) | ((with_reducible refine gate_callee (f := 84) rfl ?_); refine goesL_ (some 83) rfl rfl Try.func84 (by kernel_rfl) rfl #[.agg #[.int .i64 a0_0, .int .i64 a0_1, .int .i64 a0_2], .slice A1_0 l1_0.length c1_0, .agg #[.int .i64 a1_1, .int .i64 a1_2], .int .i64 a1_5, .bool (x11_2 == 1)] rfl (by (try simp only [List.map_toArray, List.map_cons, List.map_nil]); first | done | rfl | (simp only [List.length_drop, List.length_take]; rfl)) ?_; (with_reducible refine (swashplateref07_Witness.calls k2 a0_0 a0_1 a0_2 _ _ l1_0 a1_1 a1_2 a1_5 (x11_2 == 1) t431 t432 t433 t436 _ ?side1 ?side2 A89.out).mono ?_); (case side1 => exact Kd.C_below HR1_0.out (bl_ HB.out)); (case side2 => exact HC1_0.out); rintro e w184 ⟨v434, rfl, ho0, hb⟩; refine ⟨_, rfl, ?_⟩; have n0_ := Aside0.mk (Kd.R_elder' (by (with_reducible repeat (first | apply Kd.R_alloc | apply Kd.R_drewN | apply Kd.R_drew)); exact (Kd.R_mono (Kd.R_far (p := ⟨gb430, 1, none⟩) (Kd.R_far (p := ⟨gb430, 0, none⟩) (Kd.R_types HO428.out BK430.out (by decide)) (fun _ hk => hk.2) (.int .i64 t424)) (fun _ hk => hk.2) (.int .i64 t425)) (fun _ h_ => h_.1))) (Kd.Q_base ho0) hb); have n1_ := Aside0.mk (Kd.Q_lower (Kd.Q_new' ho0 (Kd.R_lt (by (with_reducible repeat (first | apply Kd.R_alloc | apply Kd.R_drewN | apply Kd.R_drew)); exact (Kd.R_mono (Kd.R_far (p := ⟨gb430, 1, none⟩) (Kd.R_far (p := ⟨gb430, 0, none⟩) (Kd.R_types HO428.out BK430.out (by decide)) (fun _ hk => hk.2) (.int .i64 t424)) (fun _ hk => hk.2) (.int .i64 t425)) (fun _ h_ => h_.1))))) (below_size (bl_ HB.out))); have n2_ := Aside0.mk (blk_below (g := gb407) (o := .cells #[.int .i64 a0_0, .int .i64 a0_1, .int .i64 a0_2] 105 (0, 0)) (by (with_reducible repeat (first | refine blk_drewN ?_ _ | refine blk_drew ?_ | refine blk_alloc ?_ _)); refine blk_far ?_ NB407_430.out _; (with_reducible repeat (first | refine blk_drewN ?_ _ | refine blk_drew ?_ | refine blk_alloc ?_ _)); refine blk_far ?_ NB407_430.out _; (with_reducible repeat (first | refine blk_drewN ?_ _ | refine blk_drew ?_ | refine blk_alloc ?_ _)); exact BK407.out) hb); have n3_ := Aside0.mk (blk_below (g := gb408) (o := .cells #[.slice A1_0 l1_0.length c1_0, .int .i64 a1_1, .int .i64 a1_2, .int .i64 a1_3, .int .i64 a1_4, .int .i64 a1_5] 122 (0, 0)) (by (with_reducible repeat (first | refine blk_drewN ?_ _ | refine blk_drew ?_ | refine blk_alloc ?_ _)); refine blk_far ?_ NB408_430.out _; (with_reducible repeat (first | refine blk_drewN ?_ _ | refine blk_drew ?_ | refine blk_alloc ?_ _)); refine blk_far ?_ NB408_430.out _; (with_reducible repeat (first | refine blk_drewN ?_ _ | refine blk_drew ?_ | refine blk_alloc ?_ _)); exact BK408.out) hb); have n4_ := Aside0.mk (blk_below (g := gb414) (o := .cells #[.int .i64 t409, .int .i64 t410] 28 (0, 0)) (by (with_reducible repeat (first | refine blk_drewN ?_ _ | refine blk_drew ?_ | refine blk_alloc ?_ _)); refine blk_far ?_ NB414_430.out _; (with_reducible repeat (first | refine blk_drewN ?_ _ | refine blk_drew ?_ | refine blk_alloc ?_ _)); refine blk_far ?_ NB414_430.out _; (with_reducible repeat (first | refine blk_drewN ?_ _ | refine blk_drew ?_ | refine blk_alloc ?_ _)); exact BK414.out) hb); have n5_ := Aside0.mk (blk_below (g := gb415) (o := .cells #[.int .i64 t411, .int .i64 t412] 28 (0, 0)) (by (with_reducible repeat (first | refine blk_drewN ?_ _ | refine blk_drew ?_ | refine blk_alloc ?_ _)); refine blk_far ?_ NB415_430.out _; (with_reducible repeat (first | refine blk_drewN ?_ _ | refine blk_drew ?_ | refine blk_alloc ?_ _)); refine blk_far ?_ NB415_430.out _; (with_reducible repeat (first | refine blk_drewN ?_ _ | refine blk_drew ?_ | refine blk_alloc ?_ _)); exact BK415.out) hb); have n6_ := Aside0.mk (blk_below (g := gb421) (o := .cells #[.int .i64 t416, .int .i64 t417] 28 (0, 0)) (by (with_reducible repeat (first | refine blk_drewN ?_ _ | refine blk_drew ?_ | refine blk_alloc ?_ _)); refine blk_far ?_ NB421_430.out _; (with_reducible repeat (first | refine blk_drewN ?_ _ | refine blk_drew ?_ | refine blk_alloc ?_ _)); refine blk_far ?_ NB421_430.out _; (with_reducible repeat (first | refine blk_drewN ?_ _ | refine blk_drew ?_ | refine blk_alloc ?_ _)); exact BK421.out) hb); have n7_ := Aside0.mk (blk_below (g := gb422) (o := .cells #[.int .i64 t418, .int .i64 t419] 28 (0, 0)) (by (with_reducible repeat (first | refine blk_drewN ?_ _ | refine blk_drew ?_ | refine blk_alloc ?_ _)); refine blk_far ?_ NB422_430.out _; (with_reducible repeat (first | refine blk_drewN ?_ _ | refine blk_drew ?_ | refine blk_alloc ?_ _)); refine blk_far ?_ NB422_430.out _; (with_reducible repeat (first | refine blk_drewN ?_ _ | refine blk_drew ?_ | refine blk_alloc ?_ _)); exact BK422.out) hb); have n8_ := Aside0.mk (blk_below (g := gb430) (o := .cells #[.int .i64 t424, .int .i64 t425] 28 (0, 0)) (by (with_reducible repeat (first | refine blk_drewN ?_ _ | refine blk_drew ?_ | refine blk_alloc ?_ _)); refine blk_put (cs := #[.int .i64 t424, .int .i64 0]) ?_ 1 _ rfl; (with_reducible repeat (first | refine blk_drewN ?_ _ | refine blk_drew ?_ | refine blk_alloc ?_ _)); refine blk_put (cs := #[.int .i64 0, .int .i64 0]) ?_ 0 _ rfl; (with_reducible repeat (first | refine blk_drewN ?_ _ | refine blk_drew ?_ | refine blk_alloc ?_ _)); exact BK430.out) hb); have n9_ := Aside0.mk (below_step (bl_ HB.out) hb); clear HO428 BK407 BK408 BK414 BK415 BK421 BK422 BK430 HB; have HO428 := n0_; have HO435 := n1_; have BK407 := n2_; have BK408 := n3_; have BK414 := n4_; have BK415 := n5_; have BK421 := n6_; have BK422 := n7_; have BK430 := n8_; have HB := n9_; clear n0_ n1_ n2_ n3_ n4_ n5_ n6_ n7_ n8_ n9_; (try clear hb); (try clear hb2); (try clear hk); (try clear hi); (try clear ho0)) | ((with_reducible refine gate_dst (N := 15) rfl ?_); refine box_event ?hg (N := 15) ?hd (cs := #[.int .i64 0, .int .i64 0]) (t := 28) ?hr ?_; (case hd => rfl); (case hg => rfl); (case hr => first | (go_simp; done) | (go_simp; rfl)); intro gb437 hg w185 hbox hb; have n0_ := Aside0.mk (Kd.R_below (by (with_reducible repeat (first | apply Kd.R_alloc | apply Kd.R_drewN | apply Kd.R_drew)); exact HO428.out) hb); have n1_ := Aside0.mk (Kd.Q_below (by (with_reducible repeat (first | apply Kd.Q_alloc | apply Kd.Q_drewN | apply Kd.Q_drew)); exact HO435.out) hb); have n2_ := Aside0.mk (blk_below (bk_ BK407.out) hb); have n3_ := Aside0.mk (blk_below (bk_ BK408.out) hb); have n4_ := Aside0.mk (blk_below (bk_ BK414.out) hb); have n5_ := Aside0.mk (blk_below (bk_ BK415.out) hb); have n6_ := Aside0.mk (blk_below (bk_ BK421.out) hb); have n7_ := Aside0.mk (blk_below (bk_ BK422.out) hb); have n8_ := Aside0.mk (blk_below (bk_ BK430.out) hb); have n9_ := Aside0.mk (below_step (bl_ HB.out) hb); have n10_ := Aside0.mk (hbox); have n11_ := Aside0.mk (szl_ hg HB.out); have n12_ := Aside0.mk (szl_ hg HB.out); have n13_ := Aside0.mk (nel_ hg BK407.out); have n14_ := Aside0.mk (ner_ hg BK407.out); have n15_ := Aside0.mk (nel_ hg BK408.out); have n16_ := Aside0.mk (ner_ hg BK408.out); have n17_ := Aside0.mk (nel_ hg BK414.out); have n18_ := Aside0.mk (ner_ hg BK414.out); have n19_ := Aside0.mk (nel_ hg BK415.out); have n20_ := Aside0.mk (ner_ hg BK415.out); have n21_ := Aside0.mk (nel_ hg BK421.out); have n22_ := Aside0.mk (ner_ hg BK421.out); have n23_ := Aside0.mk (nel_ hg BK422.out); have n24_ := Aside0.mk (ner_ hg BK422.out); have n25_ := Aside0.mk (nel_ hg BK430.out); have n26_ := Aside0.mk (ner_ hg BK430.out); clear HO428 HO435 BK407 BK408 BK414 BK415 BK421 BK422 BK430 HB; have HO428 := n0_; have HO435 := n1_; have BK407 := n2_; have BK408 := n3_; have BK414 := n4_; have BK415 := n5_; have BK421 := n6_; have BK422 := n7_; have BK430 := n8_; have HB := n9_; have BK437 := n10_; have GW437 := n11_; have GE437 := n12_; have NB407_437 := n13_; have NB437_407 := n14_; have NB408_437 := n15_; have NB437_408 := n16_; have NB414_437 := n17_; have NB437_414 := n18_; have NB415_437 := n19_; have NB437_415 := n20_; have NB421_437 := n21_; have NB437_421 := n22_; have NB422_437 := n23_; have NB437_422 := n24_; have NB430_437 := n25_; have NB437_430 := n26_; clear n0_ n1_ n2_ n3_ n4_ n5_ n6_ n7_ n8_ n9_ n10_ n11_ n12_ n13_ n14_ n15_ n16_ n17_ n18_ n19_ n20_ n21_ n22_ n23_ n24_ n25_ n26_ hb hbox hg; have hnb186 := NB437_407.out; have hnc186 := NB407_437.out; have hnb187 := NB437_408.out; have hnc187 := NB408_437.out; have hnb188 := NB437_414.out; have hnc188 := NB414_437.out; have hnb189 := NB437_415.out; have hnc189 := NB415_437.out; have hnb190 := NB437_421.out; have hnc190 := NB421_437.out; have hnb191 := NB437_422.out; have hnc191 := NB422_437.out; have hnb192 := NB437_430.out; have hnc192 := NB430_437.out; have hcz193_0 : w185.cell? ⟨gb437, 0, none⟩ = some (.int .i64 0) := (blk_cell BK437.out 0).trans rfl; have hcz193_1 : w185.cell? ⟨gb437, 1, none⟩ = some (.int .i64 0) := (blk_cell BK437.out 1).trans rfl; have hfz193_0 := blk_frozen BK437.out 0; have hfz193_1 := blk_frozen BK437.out 1; have hcz194_0 : w185.cell? ⟨gb430, 0, none⟩ = some (.int .i64 t424) := (blk_cell BK430.out 0).trans rfl; have hcz194_1 : w185.cell? ⟨gb430, 1, none⟩ = some (.int .i64 t425) := (blk_cell BK430.out 1).trans rfl; have hfz194_0 := blk_frozen BK430.out 0; have hfz194_1 := blk_frozen BK430.out 1; obtain ⟨Ao195, co195, eo195⟩ := Kd.R_slice HO428.out; subst eo195; obtain ⟨Ao196, co196, eo196, _⟩ := Kd.Q_slice HO435.out; subst eo196) | (go_at_call 85; (with_reducible refine (swashplatelaw07_sameInts.calls k2 _ _ t426 _ _ t433 false _ ?side1 ?side2 ?side3 ?side4 A125.out).mono ?_); (case side1 => refine (Kd.R_reads' (e := 3) (base := w.heap.size) (ok := fun k_ => (True ∧ some k_ ≠ (.slice Ao196 t433.length co196 : Value).ownBlock)) (n := t426.length) (c := co195) ?_).2.2; exact (by (with_reducible repeat (first | apply Kd.R_alloc | apply Kd.R_drewN | apply Kd.R_drew)); exact (Kd.R_mono (Kd.R_far (p := ⟨gb437, 1, none⟩) (Kd.R_far (p := ⟨gb437, 0, none⟩) (Kd.R_types HO428.out BK437.out (by decide)) (fun _ hk => hk.2) (.int .i64 t431)) (fun _ hk => hk.2) (.int .i64 t432)) (fun _ h_ => h_.1)))); (case side2 => exact (Kd.R_reads' HO428.out).2.1); (case side3 => refine (Kd.Q_reads' (e := 3) (base := w.heap.size) (ok := fun k_ => (True ∧ some k_ ≠ (.slice Ao195 t426.length co195 : Value).ownBlock)) (n := t433.length) (c := co196) ?_).2.2; exact (by (with_reducible repeat (first | apply Kd.Q_alloc | apply Kd.Q_drewN | apply Kd.Q_drew)); exact (Kd.Q_mono (Kd.Q_far (p := ⟨gb437, 1, none⟩) (Kd.Q_far (p := ⟨gb437, 0, none⟩) (Kd.Q_types HO435.out BK437.out (by decide)) (fun _ hk => hk.2) (.int .i64 t431)) (fun _ hk => hk.2) (.int .i64 t432)) (fun _ h_ => h_.1)))); (case side4 => exact (Kd.Q_reads' HO435.out).2.1); rintro e w' ⟨rfl, ⟨nd, rfl⟩⟩))
          go_ret
          exact ⟨by first | rfl | (simp [errW_none, errW_some] <;> rfl) | (simp [*, errW_none, errW_some] <;> rfl), bl_ HB.out⟩
        ·
         rw [if_neg c124] at H
         have c124b0 : (t429 == t436) = false := beq_eq_false_iff_ne.mpr c124
         have c124b1 : (t429 != t436) = true := bne_iff_ne.mpr c124
         obtain rfl := Option.some.inj H
         have hnb197 := NB407_408.out
         have hnc197 := NB408_407.out
         have hnb198 := NB407_414.out
         have hnc198 := NB414_407.out
         have hnb199 := NB407_415.out
         have hnc199 := NB415_407.out
         have hnb200 := NB407_421.out
         have hnc200 := NB421_407.out
         have hnb201 := NB407_422.out
         have hnc201 := NB422_407.out
         have hcz202_0 : wr.cell? ⟨gb407, 0, none⟩ = some (.int .i64 a0_0) := (blk_cell BK407.out 0).trans rfl
         have hcz202_1 : wr.cell? ⟨gb407, 1, none⟩ = some (.int .i64 a0_1) := (blk_cell BK407.out 1).trans rfl
         have hcz202_2 : wr.cell? ⟨gb407, 2, none⟩ = some (.int .i64 a0_2) := (blk_cell BK407.out 2).trans rfl
         have hfz202_0 := blk_frozen BK407.out 0
         have hfz202_1 := blk_frozen BK407.out 1
         have hfz202_2 := blk_frozen BK407.out 2
         have hnb203 := NB408_414.out
         have hnc203 := NB414_408.out
         have hnb204 := NB408_415.out
         have hnc204 := NB415_408.out
         have hnb205 := NB408_421.out
         have hnc205 := NB421_408.out
         have hnb206 := NB408_422.out
         have hnc206 := NB422_408.out
         have hcz207_0 : wr.cell? ⟨gb408, 0, none⟩ = some (.slice A1_0 l1_0.length c1_0) := (blk_cell BK408.out 0).trans rfl
         have hcz207_1 : wr.cell? ⟨gb408, 1, none⟩ = some (.int .i64 a1_1) := (blk_cell BK408.out 1).trans rfl
         have hcz207_2 : wr.cell? ⟨gb408, 2, none⟩ = some (.int .i64 a1_2) := (blk_cell BK408.out 2).trans rfl
         have hcz207_3 : wr.cell? ⟨gb408, 3, none⟩ = some (.int .i64 a1_3) := (blk_cell BK408.out 3).trans rfl
         have hcz207_4 : wr.cell? ⟨gb408, 4, none⟩ = some (.int .i64 a1_4) := (blk_cell BK408.out 4).trans rfl
         have hcz207_5 : wr.cell? ⟨gb408, 5, none⟩ = some (.int .i64 a1_5) := (blk_cell BK408.out 5).trans rfl
         have hfz207_0 := blk_frozen BK408.out 0
         have hfz207_1 := blk_frozen BK408.out 1
         have hfz207_2 := blk_frozen BK408.out 2
         have hfz207_3 := blk_frozen BK408.out 3
         have hfz207_4 := blk_frozen BK408.out 4
         have hfz207_5 := blk_frozen BK408.out 5
         go_wp2_with (first | ((with_reducible refine gate_callee (f := 83) rfl ?_); refine goesL_ (some 69) rfl rfl Try.func83 (by kernel_rfl) rfl #[.agg #[.int .i64 a0_0, .int .i64 a0_1, .int .i64 a0_2], .slice A1_0 l1_0.length c1_0, .agg #[.int .i64 a1_1, .int .i64 a1_2], .int .i64 a1_5, .bool (x11_2 == 1)] rfl (by (try simp only [List.map_toArray, List.map_cons, List.map_nil]); first | done | rfl | (simp only [List.length_drop, List.length_take]; rfl)) ?_; (with_reducible refine (sling_Witness.calls a0_0 a0_1 a0_2 _ _ l1_0 a1_1 a1_2 a1_5 (x11_2 == 1) t424 t425 t426 t429 _ ?side1 ?side2 A88.out).mono ?_); (case side1 => exact cr_ (Kd.C_below HR1_0.out HB.out)); (case side2 => exact HC1_0.out); rintro e w208 ⟨v427, rfl, ho0, hb⟩; refine ⟨_, rfl, ?_⟩; have n0_ := Aside0.mk (Kd.R_lower ho0 (below_size (bl_ HB.out))); have n1_ := Aside0.mk (blk_below (bk_ BK407.out) hb); have n2_ := Aside0.mk (blk_below (bk_ BK408.out) hb); have n3_ := Aside0.mk (blk_below (bk_ BK414.out) hb); have n4_ := Aside0.mk (blk_below (bk_ BK415.out) hb); have n5_ := Aside0.mk (blk_below (bk_ BK421.out) hb); have n6_ := Aside0.mk (blk_below (bk_ BK422.out) hb); have n7_ := Aside0.mk (below_step (bl_ HB.out) hb); clear BK407 BK408 BK414 BK415 BK421 BK422 HB; have HO428 := n0_; have BK407 := n1_; have BK408 := n2_; have BK414 := n3_; have BK415 := n4_; have BK421 := n5_; have BK422 := n6_; have HB := n7_; clear n0_ n1_ n2_ n3_ n4_ n5_ n6_ n7_; (try clear hb); (try clear hb2); (try clear hk); (try clear hi); (try clear ho0)) | ((with_reducible refine gate_dst (N := 12) rfl ?_); refine box_event ?hg (N := 12) ?hd (cs := #[.int .i64 0, .int .i64 0]) (t := 28) ?hr ?_; (case hd => rfl); (case hg => rfl); (case hr => first | (go_simp; done) | (go_simp; rfl)); intro gb430 hg w209 hbox hb; have n0_ := Aside0.mk (Kd.R_below (by (with_reducible repeat (first | apply Kd.R_alloc | apply Kd.R_drewN | apply Kd.R_drew)); exact HO428.out) hb); have n1_ := Aside0.mk (blk_below (bk_ BK407.out) hb); have n2_ := Aside0.mk (blk_below (bk_ BK408.out) hb); have n3_ := Aside0.mk (blk_below (bk_ BK414.out) hb); have n4_ := Aside0.mk (blk_below (bk_ BK415.out) hb); have n5_ := Aside0.mk (blk_below (bk_ BK421.out) hb); have n6_ := Aside0.mk (blk_below (bk_ BK422.out) hb); have n7_ := Aside0.mk (below_step (bl_ HB.out) hb); have n8_ := Aside0.mk (hbox); have n9_ := Aside0.mk (szl_ hg HB.out); have n10_ := Aside0.mk (szl_ hg HB.out); have n11_ := Aside0.mk (nel_ hg BK407.out); have n12_ := Aside0.mk (ner_ hg BK407.out); have n13_ := Aside0.mk (nel_ hg BK408.out); have n14_ := Aside0.mk (ner_ hg BK408.out); have n15_ := Aside0.mk (nel_ hg BK414.out); have n16_ := Aside0.mk (ner_ hg BK414.out); have n17_ := Aside0.mk (nel_ hg BK415.out); have n18_ := Aside0.mk (ner_ hg BK415.out); have n19_ := Aside0.mk (nel_ hg BK421.out); have n20_ := Aside0.mk (ner_ hg BK421.out); have n21_ := Aside0.mk (nel_ hg BK422.out); have n22_ := Aside0.mk (ner_ hg BK422.out); clear HO428 BK407 BK408 BK414 BK415 BK421 BK422 HB; have HO428 := n0_; have BK407 := n1_; have BK408 := n2_; have BK414 := n3_; have BK415 := n4_; have BK421 := n5_; have BK422 := n6_; have HB := n7_; have BK430 := n8_; have GW430 := n9_; have GE430 := n10_; have NB407_430 := n11_; have NB430_407 := n12_; have NB408_430 := n13_; have NB430_408 := n14_; have NB414_430 := n15_; have NB430_414 := n16_; have NB415_430 := n17_; have NB430_415 := n18_; have NB421_430 := n19_; have NB430_421 := n20_; have NB422_430 := n21_; have NB430_422 := n22_; clear n0_ n1_ n2_ n3_ n4_ n5_ n6_ n7_ n8_ n9_ n10_ n11_ n12_ n13_ n14_ n15_ n16_ n17_ n18_ n19_ n20_ n21_ n22_ hb hbox hg; have hnb210 := NB430_407.out; have hnc210 := NB407_430.out; have hnb211 := NB430_408.out; have hnc211 := NB408_430.out; have hnb212 := NB430_414.out; have hnc212 := NB414_430.out; have hnb213 := NB430_415.out; have hnc213 := NB415_430.out; have hnb214 := NB430_421.out; have hnc214 := NB421_430.out; have hnb215 := NB430_422.out; have hnc215 := NB422_430.out; have hcz216_0 : w209.cell? ⟨gb430, 0, none⟩ = some (.int .i64 0) := (blk_cell BK430.out 0).trans rfl; have hcz216_1 : w209.cell? ⟨gb430, 1, none⟩ = some (.int .i64 0) := (blk_cell BK430.out 1).trans rfl; have hfz216_0 := blk_frozen BK430.out 0; have hfz216_1 := blk_frozen BK430.out 1; have hcz217_0 : w209.cell? ⟨gb407, 0, none⟩ = some (.int .i64 a0_0) := (blk_cell BK407.out 0).trans rfl; have hcz217_1 : w209.cell? ⟨gb407, 1, none⟩ = some (.int .i64 a0_1) := (blk_cell BK407.out 1).trans rfl; have hcz217_2 : w209.cell? ⟨gb407, 2, none⟩ = some (.int .i64 a0_2) := (blk_cell BK407.out 2).trans rfl; have hfz217_0 := blk_frozen BK407.out 0; have hfz217_1 := blk_frozen BK407.out 1; have hfz217_2 := blk_frozen BK407.out 2; have hcz218_0 : w209.cell? ⟨gb408, 0, none⟩ = some (.slice A1_0 l1_0.length c1_0) := (blk_cell BK408.out 0).trans rfl; have hcz218_1 : w209.cell? ⟨gb408, 1, none⟩ = some (.int .i64 a1_1) := (blk_cell BK408.out 1).trans rfl; have hcz218_2 : w209.cell? ⟨gb408, 2, none⟩ = some (.int .i64 a1_2) := (blk_cell BK408.out 2).trans rfl; have hcz218_3 : w209.cell? ⟨gb408, 3, none⟩ = some (.int .i64 a1_3) := (blk_cell BK408.out 3).trans rfl; have hcz218_4 : w209.cell? ⟨gb408, 4, none⟩ = some (.int .i64 a1_4) := (blk_cell BK408.out 4).trans rfl; have hcz218_5 : w209.cell? ⟨gb408, 5, none⟩ = some (.int .i64 a1_5) := (blk_cell BK408.out 5).trans rfl; have hfz218_0 := blk_frozen BK408.out 0; have hfz218_1 := blk_frozen BK408.out 1; have hfz218_2 := blk_frozen BK408.out 2; have hfz218_3 := blk_frozen BK408.out 3; have hfz218_4 := blk_frozen BK408.out 4; have hfz218_5 := blk_frozen BK408.out 5) | ((with_reducible refine gate_callee (f := 84) rfl ?_); refine goesL_ (some 83) rfl rfl Try.func84 (by kernel_rfl) rfl #[.agg #[.int .i64 a0_0, .int .i64 a0_1, .int .i64 a0_2], .slice A1_0 l1_0.length c1_0, .agg #[.int .i64 a1_1, .int .i64 a1_2], .int .i64 a1_5, .bool (x11_2 == 1)] rfl (by (try simp only [List.map_toArray, List.map_cons, List.map_nil]); first | done | rfl | (simp only [List.length_drop, List.length_take]; rfl)) ?_; (with_reducible refine (swashplateref07_Witness.calls k2 a0_0 a0_1 a0_2 _ _ l1_0 a1_1 a1_2 a1_5 (x11_2 == 1) t431 t432 t433 t436 _ ?side1 ?side2 A89.out).mono ?_); (case side1 => exact Kd.C_below HR1_0.out (bl_ HB.out)); (case side2 => exact HC1_0.out); rintro e w219 ⟨v434, rfl, ho0, hb⟩; refine ⟨_, rfl, ?_⟩; have n0_ := Aside0.mk (Kd.R_elder' (by (with_reducible repeat (first | apply Kd.R_alloc | apply Kd.R_drewN | apply Kd.R_drew)); exact (Kd.R_mono (Kd.R_far (p := ⟨gb430, 1, none⟩) (Kd.R_far (p := ⟨gb430, 0, none⟩) (Kd.R_types HO428.out BK430.out (by decide)) (fun _ hk => hk.2) (.int .i64 t424)) (fun _ hk => hk.2) (.int .i64 t425)) (fun _ h_ => h_.1))) (Kd.Q_base ho0) hb); have n1_ := Aside0.mk (Kd.Q_lower (Kd.Q_new' ho0 (Kd.R_lt (by (with_reducible repeat (first | apply Kd.R_alloc | apply Kd.R_drewN | apply Kd.R_drew)); exact (Kd.R_mono (Kd.R_far (p := ⟨gb430, 1, none⟩) (Kd.R_far (p := ⟨gb430, 0, none⟩) (Kd.R_types HO428.out BK430.out (by decide)) (fun _ hk => hk.2) (.int .i64 t424)) (fun _ hk => hk.2) (.int .i64 t425)) (fun _ h_ => h_.1))))) (below_size (bl_ HB.out))); have n2_ := Aside0.mk (blk_below (g := gb407) (o := .cells #[.int .i64 a0_0, .int .i64 a0_1, .int .i64 a0_2] 105 (0, 0)) (by (with_reducible repeat (first | refine blk_drewN ?_ _ | refine blk_drew ?_ | refine blk_alloc ?_ _)); refine blk_far ?_ NB407_430.out _; (with_reducible repeat (first | refine blk_drewN ?_ _ | refine blk_drew ?_ | refine blk_alloc ?_ _)); refine blk_far ?_ NB407_430.out _; (with_reducible repeat (first | refine blk_drewN ?_ _ | refine blk_drew ?_ | refine blk_alloc ?_ _)); exact BK407.out) hb); have n3_ := Aside0.mk (blk_below (g := gb408) (o := .cells #[.slice A1_0 l1_0.length c1_0, .int .i64 a1_1, .int .i64 a1_2, .int .i64 a1_3, .int .i64 a1_4, .int .i64 a1_5] 122 (0, 0)) (by (with_reducible repeat (first | refine blk_drewN ?_ _ | refine blk_drew ?_ | refine blk_alloc ?_ _)); refine blk_far ?_ NB408_430.out _; (with_reducible repeat (first | refine blk_drewN ?_ _ | refine blk_drew ?_ | refine blk_alloc ?_ _)); refine blk_far ?_ NB408_430.out _; (with_reducible repeat (first | refine blk_drewN ?_ _ | refine blk_drew ?_ | refine blk_alloc ?_ _)); exact BK408.out) hb); have n4_ := Aside0.mk (blk_below (g := gb414) (o := .cells #[.int .i64 t409, .int .i64 t410] 28 (0, 0)) (by (with_reducible repeat (first | refine blk_drewN ?_ _ | refine blk_drew ?_ | refine blk_alloc ?_ _)); refine blk_far ?_ NB414_430.out _; (with_reducible repeat (first | refine blk_drewN ?_ _ | refine blk_drew ?_ | refine blk_alloc ?_ _)); refine blk_far ?_ NB414_430.out _; (with_reducible repeat (first | refine blk_drewN ?_ _ | refine blk_drew ?_ | refine blk_alloc ?_ _)); exact BK414.out) hb); have n5_ := Aside0.mk (blk_below (g := gb415) (o := .cells #[.int .i64 t411, .int .i64 t412] 28 (0, 0)) (by (with_reducible repeat (first | refine blk_drewN ?_ _ | refine blk_drew ?_ | refine blk_alloc ?_ _)); refine blk_far ?_ NB415_430.out _; (with_reducible repeat (first | refine blk_drewN ?_ _ | refine blk_drew ?_ | refine blk_alloc ?_ _)); refine blk_far ?_ NB415_430.out _; (with_reducible repeat (first | refine blk_drewN ?_ _ | refine blk_drew ?_ | refine blk_alloc ?_ _)); exact BK415.out) hb); have n6_ := Aside0.mk (blk_below (g := gb421) (o := .cells #[.int .i64 t416, .int .i64 t417] 28 (0, 0)) (by (with_reducible repeat (first | refine blk_drewN ?_ _ | refine blk_drew ?_ | refine blk_alloc ?_ _)); refine blk_far ?_ NB421_430.out _; (with_reducible repeat (first | refine blk_drewN ?_ _ | refine blk_drew ?_ | refine blk_alloc ?_ _)); refine blk_far ?_ NB421_430.out _; (with_reducible repeat (first | refine blk_drewN ?_ _ | refine blk_drew ?_ | refine blk_alloc ?_ _)); exact BK421.out) hb); have n7_ := Aside0.mk (blk_below (g := gb422) (o := .cells #[.int .i64 t418, .int .i64 t419] 28 (0, 0)) (by (with_reducible repeat (first | refine blk_drewN ?_ _ | refine blk_drew ?_ | refine blk_alloc ?_ _)); refine blk_far ?_ NB422_430.out _; (with_reducible repeat (first | refine blk_drewN ?_ _ | refine blk_drew ?_ | refine blk_alloc ?_ _)); refine blk_far ?_ NB422_430.out _; (with_reducible repeat (first | refine blk_drewN ?_ _ | refine blk_drew ?_ | refine blk_alloc ?_ _)); exact BK422.out) hb); have n8_ := Aside0.mk (blk_below (g := gb430) (o := .cells #[.int .i64 t424, .int .i64 t425] 28 (0, 0)) (by (with_reducible repeat (first | refine blk_drewN ?_ _ | refine blk_drew ?_ | refine blk_alloc ?_ _)); refine blk_put (cs := #[.int .i64 t424, .int .i64 0]) ?_ 1 _ rfl; (with_reducible repeat (first | refine blk_drewN ?_ _ | refine blk_drew ?_ | refine blk_alloc ?_ _)); refine blk_put (cs := #[.int .i64 0, .int .i64 0]) ?_ 0 _ rfl; (with_reducible repeat (first | refine blk_drewN ?_ _ | refine blk_drew ?_ | refine blk_alloc ?_ _)); exact BK430.out) hb); have n9_ := Aside0.mk (below_step (bl_ HB.out) hb); clear HO428 BK407 BK408 BK414 BK415 BK421 BK422 BK430 HB; have HO428 := n0_; have HO435 := n1_; have BK407 := n2_; have BK408 := n3_; have BK414 := n4_; have BK415 := n5_; have BK421 := n6_; have BK422 := n7_; have BK430 := n8_; have HB := n9_; clear n0_ n1_ n2_ n3_ n4_ n5_ n6_ n7_ n8_ n9_; (try clear hb); (try clear hb2); (try clear hk); (try clear hi); (try clear ho0)) | ((with_reducible refine gate_dst (N := 15) rfl ?_); refine box_event ?hg (N := 15) ?hd (cs := #[.int .i64 0, .int .i64 0]) (t := 28) ?hr ?_; (case hd => rfl); (case hg => rfl); (case hr => first | (go_simp; done) | (go_simp; rfl)); intro gb437 hg w220 hbox hb; have n0_ := Aside0.mk (Kd.R_below (by (with_reducible repeat (first | apply Kd.R_alloc | apply Kd.R_drewN | apply Kd.R_drew)); exact HO428.out) hb); have n1_ := Aside0.mk (Kd.Q_below (by (with_reducible repeat (first | apply Kd.Q_alloc | apply Kd.Q_drewN | apply Kd.Q_drew)); exact HO435.out) hb); have n2_ := Aside0.mk (blk_below (bk_ BK407.out) hb); have n3_ := Aside0.mk (blk_below (bk_ BK408.out) hb); have n4_ := Aside0.mk (blk_below (bk_ BK414.out) hb); have n5_ := Aside0.mk (blk_below (bk_ BK415.out) hb); have n6_ := Aside0.mk (blk_below (bk_ BK421.out) hb); have n7_ := Aside0.mk (blk_below (bk_ BK422.out) hb); have n8_ := Aside0.mk (blk_below (bk_ BK430.out) hb); have n9_ := Aside0.mk (below_step (bl_ HB.out) hb); have n10_ := Aside0.mk (hbox); have n11_ := Aside0.mk (szl_ hg HB.out); have n12_ := Aside0.mk (szl_ hg HB.out); have n13_ := Aside0.mk (nel_ hg BK407.out); have n14_ := Aside0.mk (ner_ hg BK407.out); have n15_ := Aside0.mk (nel_ hg BK408.out); have n16_ := Aside0.mk (ner_ hg BK408.out); have n17_ := Aside0.mk (nel_ hg BK414.out); have n18_ := Aside0.mk (ner_ hg BK414.out); have n19_ := Aside0.mk (nel_ hg BK415.out); have n20_ := Aside0.mk (ner_ hg BK415.out); have n21_ := Aside0.mk (nel_ hg BK421.out); have n22_ := Aside0.mk (ner_ hg BK421.out); have n23_ := Aside0.mk (nel_ hg BK422.out); have n24_ := Aside0.mk (ner_ hg BK422.out); have n25_ := Aside0.mk (nel_ hg BK430.out); have n26_ := Aside0.mk (ner_ hg BK430.out); clear HO428 HO435 BK407 BK408 BK414 BK415 BK421 BK422 BK430 HB; have HO428 := n0_; have HO435 := n1_; have BK407 := n2_; have BK408 := n3_; have BK414 := n4_; have BK415 := n5_; have BK421 := n6_; have BK422 := n7_; have BK430 := n8_; have HB := n9_; have BK437 := n10_; have GW437 := n11_; have GE437 := n12_; have NB407_437 := n13_; have NB437_407 := n14_; have NB408_437 := n15_; have NB437_408 := n16_; have NB414_437 := n17_; have NB437_414 := n18_; have NB415_437 := n19_; have NB437_415 := n20_; have NB421_437 := n21_; have NB437_421 := n22_; have NB422_437 := n23_; have NB437_422 := n24_; have NB430_437 := n25_; have NB437_430 := n26_; clear n0_ n1_ n2_ n3_ n4_ n5_ n6_ n7_ n8_ n9_ n10_ n11_ n12_ n13_ n14_ n15_ n16_ n17_ n18_ n19_ n20_ n21_ n22_ n23_ n24_ n25_ n26_ hb hbox hg; have hnb221 := NB437_407.out; have hnc221 := NB407_437.out; have hnb222 := NB437_408.out; have hnc222 := NB408_437.out; have hnb223 := NB437_414.out; have hnc223 := NB414_437.out; have hnb224 := NB437_415.out; have hnc224 := NB415_437.out; have hnb225 := NB437_421.out; have hnc225 := NB421_437.out; have hnb226 := NB437_422.out; have hnc226 := NB422_437.out; have hnb227 := NB437_430.out; have hnc227 := NB430_437.out; have hcz228_0 : w220.cell? ⟨gb437, 0, none⟩ = some (.int .i64 0) := (blk_cell BK437.out 0).trans rfl; have hcz228_1 : w220.cell? ⟨gb437, 1, none⟩ = some (.int .i64 0) := (blk_cell BK437.out 1).trans rfl; have hfz228_0 := blk_frozen BK437.out 0; have hfz228_1 := blk_frozen BK437.out 1; have hcz229_0 : w220.cell? ⟨gb430, 0, none⟩ = some (.int .i64 t424) := (blk_cell BK430.out 0).trans rfl; have hcz229_1 : w220.cell? ⟨gb430, 1, none⟩ = some (.int .i64 t425) := (blk_cell BK430.out 1).trans rfl; have hfz229_0 := blk_frozen BK430.out 0; have hfz229_1 := blk_frozen BK430.out 1))
         go_ret
         exact ⟨by first | rfl | (simp [errW_none, errW_some] <;> rfl) | (simp [*, errW_none, errW_some] <;> rfl), bl_ HB.out⟩
      ·
       rw [if_neg c87] at H
       have c87b0 : decide (x11_2 < 2) = false := decide_eq_false c87
       clear c87
       replace H := Option.bind_eq_some_iff.mp H
       obtain ⟨t423, A2300, H⟩ := H
       replace H : (some t423) = some r := H
       have A230 := Aside0.mk A2300
       clear A2300
       obtain rfl := Option.some.inj H
       go_wp2_with (first | ((with_reducible refine gate_callee (f := 75) rfl ?_); refine goesL_ (some 101) rfl rfl Try.func75 (by kernel_rfl) rfl #[] rfl (by (try simp only [List.map_toArray, List.map_cons, List.map_nil]); first | done | rfl | (simp only [List.length_drop, List.length_take]; rfl)) ?_; (with_reducible refine (swashplatelaw07_works.calls k2  t423 _ A230.out).mono ?_); rintro e w231 ⟨rfl, hb⟩; refine ⟨_, rfl, ?_⟩; have n0_ := Aside0.mk (blk_below (bk_ BK407.out) hb); have n1_ := Aside0.mk (blk_below (bk_ BK408.out) hb); have n2_ := Aside0.mk (blk_below (bk_ BK414.out) hb); have n3_ := Aside0.mk (blk_below (bk_ BK415.out) hb); have n4_ := Aside0.mk (blk_below (bk_ BK421.out) hb); have n5_ := Aside0.mk (blk_below (bk_ BK422.out) hb); have n6_ := Aside0.mk (below_step (bl_ HB.out) hb); clear BK407 BK408 BK414 BK415 BK421 BK422 HB; have BK407 := n0_; have BK408 := n1_; have BK414 := n2_; have BK415 := n3_; have BK421 := n4_; have BK422 := n5_; have HB := n6_; clear n0_ n1_ n2_ n3_ n4_ n5_ n6_; (try clear hb); (try clear hb2); (try clear hk); (try clear hi)))
       go_ret
       exact ⟨by first | rfl | (simp [errW_none, errW_some] <;> rfl) | (simp [*, errW_none, errW_some] <;> rfl), bl_ HB.out⟩
end Go.Proofs.Yteodlmgmmpkpoaa.PS
end
section
namespace Go.Proofs.Yteodlmgmmpkpoaa.PS
open Go.RowKit Go.Proofs.YteodlmgmmpkpoaaW.PrintWords Go.Proofs.YteodlmgmmpkpoaaW.PrintLast Go.Proofs.YteodlmgmmpkpoaaW.PrintMore
set_option linter.unusedVariables false
set_option linter.unusedSimpArgs false
theorem inside_total (a b M : Int) (h0 : 0 ≤ M) (h1 : M ≤ 1000) : swashplateref07_inside.f a b M = some (decide (-M ≤ a) && decide (b ≤ M)) := by
  unfold swashplateref07_inside.f
  rw [wr64 (by omega) (by omega)]
  by_cases h : a ≥ -M
  · rw [if_pos h, decide_eq_true (show -M ≤ a from h)]; rfl
  · rw [if_neg h, decide_eq_false (show ¬ -M ≤ a from h)]; rfl
theorem okS_le' {a b : Int} (h : okS a b = true) : a ≤ b := by
  unfold okS at h; simp only [Bool.and_eq_true, decide_eq_true_eq] at h; omega
theorem boxB_le {b : List S27} (h : boxB b = true) {i : Nat} (hi : i < b.length) : (b.getD i z27).f0 ≤ (b.getD i z27).f1 := by
  unfold boxB at h
  simp only [Bool.and_eq_true, List.all_eq_true] at h
  exact okS_le' (h.2 _ (getD_mem b z27 i hi))
theorem numbers_total (b : List S27) (g0 g1 k : Int) (hb : boxB b = true) (hg : okS g0 g1 = true) : swashplateref07_checkNumbers.f b g0 g1 k = some (if argB b g0 g1 k then 0 else 1) := by
  unfold swashplateref07_checkNumbers.f argB
  by_cases h2 : b.length = 2
  · rw [if_pos (by omega), if_pos (by omega), inside_total _ _ _ (by omega) (by omega), Option.bind_some]
    have l0 := boxB_le hb (i := 0) (by omega)
    have l1 := boxB_le hb (i := 1) (by omega)
    have lg := okS_le' hg
    rw [show rd_T27 b 0 = b.getD 0 z27 from rfl, show rd_T27 b 1 = b.getD 1 z27 from rfl]
    generalize b.getD 0 z27 = s0 at *
    generalize b.getD 1 z27 = s1 at *
    rw [h2]
    unfold stB guB nB
    by_cases c0 : -1000 ≤ s0.f0 ∧ s0.f1 ≤ 1000
    · rw [if_pos (by simp [c0.1, c0.2]), if_pos (by omega), inside_total _ _ _ (by omega) (by omega), Option.bind_some]
      by_cases c1 : -1000 ≤ s1.f0 ∧ s1.f1 ≤ 1000
      · rw [if_pos (by simp [c1.1, c1.2]), inside_total _ _ _ (by omega) (by omega), Option.bind_some]
        by_cases c2 : -100 ≤ g0 ∧ g1 ≤ 100
        · rw [if_pos (by simp [c2.1, c2.2]), rw7, Option.bind_some]
          have e1 : s0.f0 ≤ 1000 := by omega
          have e2 : -1000 ≤ s0.f1 := by omega
          have e3 : s1.f0 ≤ 1000 := by omega
          have e4 : -1000 ≤ s1.f1 := by omega
          have e5 : g0 ≤ 100 := by omega
          have e6 : -100 ≤ g1 := by omega
          simp [c0.1, c0.2, c1.1, c1.2, c2.1, c2.2, e1, e2, e3, e4, e5, e6]
          split <;> rfl
        · rw [if_neg (by simpa using fun h => by omega)]
          congr 1
          rw [if_neg]
          intro h
          simp only [Bool.and_eq_true, decide_eq_true_eq] at h
          omega
      · rw [if_neg (by simpa using fun h => by omega)]
        congr 1
        rw [if_neg]
        intro h
        simp only [Bool.and_eq_true, decide_eq_true_eq] at h
        omega
    · rw [if_neg (by simpa using fun h => by omega)]
      congr 1
      rw [if_neg]
      intro h
      simp only [Bool.and_eq_true, decide_eq_true_eq] at h
      omega
  · rw [if_neg (by omega)]
    have : (b.length == 2) = false := by simpa using h2
    rw [this]; rfl
theorem sets_total (n m D : Int) (b : List S27) (g0 g1 N : Int) (k : Nat) (hk : 5 < k) : swashplateref07_CheckSets.f k n m D b g0 g1 N = some (setE n m D b g0 g1 N) := by
  unfold swashplateref07_CheckSets.f setE
  rw [rchk7, Option.bind_some]
  cases slB n m D with
  | false => simp
  | true =>
    rw [if_pos rfl, if_pos rfl, rcheck_total b k hk, Option.bind_some]
    cases hb : boxB b with
    | false => simp
    | true =>
      rw [if_pos rfl, if_pos rfl, rvalid_total, Option.bind_some, if_pos rfl]
      cases hg : okS g0 g1 with
      | false => simp
      | true =>
        rw [if_pos rfl, numbers_total b g0 g1 N hb hg]
        rfl
theorem ends_total (n m D : Int) (b : List S27) (hb : b.length = 2) (g0 g1 : Int) (N : Nat) (hN : N ≤ 16) (high : Bool) (k : Nat) :
    swashplateref07_ends.f k n m D b g0 g1 N high = some (rowT n m D b ⟨g0, g1⟩ N high, mostT n m D b ⟨g0, g1⟩ N high (N + 2)) := by
  unfold swashplateref07_ends.f
  rw [if_pos ⟨hb, by omega, by omega⟩, Int.toNat_natCast]
theorem setE_zero {n m D : Int} {b : List S27} {g0 g1 N : Int} (h : setE n m D b g0 g1 N = 0) : (1 ≤ D ∧ D ≤ 4) ∧ b.length = 2 ∧ 0 ≤ N ∧ N ≤ 16 := by
  unfold setE at h
  cases h1 : slB n m D with
  | false => rw [h1] at h; simp at h
  | true =>
    rw [h1, if_pos rfl] at h
    cases h2 : (boxB b && okS g0 g1) with
    | false => rw [h2] at h; simp at h
    | true =>
      rw [h2, if_pos rfl] at h
      cases h3 : argB b g0 g1 N with
      | false => rw [h3] at h; simp at h
      | true =>
        unfold slB at h1
        unfold argB nB at h3
        simp only [Bool.and_eq_true, decide_eq_true_eq, beq_iff_eq] at h1 h3
        exact ⟨h1.1, h3.1.1.1, h3.2⟩
theorem part_den (n m D : Int) (N i : Nat) : (partT n m D N i).d = pwT D N := st_den n m D (unL i) rfl _ N
theorem rreach_total (n m D : Int) (b : List S27) (g0 g1 N : Int) (k : Nat) (hk : 1099511627900 < k) : swashplateref07_Reach.f k n m D b g0 g1 N = sling_Reach.f k n m D b g0 g1 N := by
  unfold swashplateref07_Reach.f sling_Reach.f
  rw [sets_total n m D b g0 g1 N k (by omega), Option.bind_some]
  by_cases h : setE n m D b g0 g1 N = 0
  · obtain ⟨hD, hb, h0, h16⟩ := setE_zero h
    obtain ⟨T, rfl⟩ : ∃ T : Nat, N = T := ⟨N.toNat, by omega⟩
    have hp := pw_range D hD.1 hD.2 T (by omega)
    rw [if_pos h, if_pos h, ends_total n m D b hb g0 g1 T (by omega) _ k, Option.bind_some, ends_total n m D b hb g0 g1 T (by omega) _ k, Option.bind_some, power_total D T (by omega) k (by omega), Option.bind_some,
      rlow_total _ _ (by omega) k (by omega), Option.bind_some, rlow_total _ _ (by omega) k (by omega), Option.bind_some]
    unfold ends7
    rw [Int.toNat_natCast, part_den]
  · rw [if_neg h, if_neg h]
theorem row_len (n m D : Int) (b : List S27) (g : S27) (N : Nat) (high : Bool) : (rowT n m D b g N high).length = N + 2 := by unfold rowT; simp
theorem rwitness_total (n m D : Int) (b : List S27) (g0 g1 N : Int) (high : Bool) (k : Nat) (hk : 140 < k) : swashplateref07_Witness.f k n m D b g0 g1 N high = sling_Witness.f n m D b g0 g1 N high := by
  unfold swashplateref07_Witness.f sling_Witness.f
  rw [sets_total n m D b g0 g1 N k (by omega), Option.bind_some]
  by_cases h : setE n m D b g0 g1 N = 0
  · obtain ⟨hD, hb, h0, h16⟩ := setE_zero h
    obtain ⟨T, rfl⟩ : ∃ T : Nat, N = T := ⟨N.toNat, by omega⟩
    rw [if_pos h, if_pos h, ends_total n m D b hb g0 g1 T (by omega) _ k, Option.bind_some, row_len, if_pos (by omega), if_pos (by omega), if_pos (by omega), Int.toNat_natCast]
    rfl
  · rw [if_neg h, if_neg h]
theorem sameI_loop (l : List Int) (hl : l.length ≤ 1000) : ∀ (r i : Nat), i ≤ l.length → l.length - i = r → ∀ k, r < k → swashplatelaw07_sameInts.l0 k l l i = some true := by
  intro r
  induction r with
  | zero =>
    intro i hi hr k hk
    obtain ⟨k, rfl⟩ : ∃ j, k = j + 1 := ⟨k - 1, by omega⟩
    unfold swashplatelaw07_sameInts.l0
    rw [if_neg (by omega)]
  | succ r ih =>
    intro i hi hr k hk
    obtain ⟨k, rfl⟩ : ∃ j, k = j + 1 := ⟨k - 1, by omega⟩
    unfold swashplatelaw07_sameInts.l0
    rw [if_pos (by omega), if_pos (by omega), if_pos (by omega), if_pos rfl, step64 i (by omega)]
    exact ih (i + 1) (by omega) (by omega) k (by omega)
theorem sameI_total (l : List Int) (hl : l.length ≤ 1000) (k : Nat) (hk : 1000 < k) : swashplatelaw07_sameInts.f k l l = some true := by
  unfold swashplatelaw07_sameInts.f
  rw [if_pos rfl]
  exact sameI_loop l hl l.length 0 (by omega) (by omega) k (by omega)
theorem witness_small (n m D : Int) (b : List S27) (g0 g1 N : Int) (high : Bool) : ∃ r : Int × Int × List Int × Int, sling_Witness.f n m D b g0 g1 N high = some r ∧ r.2.2.1.length ≤ 1000 := by
  refine ⟨_, rfl, ?_⟩
  by_cases h : setE n m D b g0 g1 N = 0
  · obtain ⟨hD, hb, h0, h16⟩ := setE_zero h
    rw [if_pos h]
    show ((rowT n m D b ⟨g0, g1⟩ N.toNat high).drop 2).length ≤ 1000
    rw [List.length_drop, row_len]
    omega
  · rw [if_neg h]; simp
theorem reaches_loop (n m D : Int) (b : List S27) (g0 g1 l0 l1 N : Int) : ∀ (r j : Nat), j ≤ 2 → 2 - j = r → ∀ k, 2000 + r < k → swashplatelaw07_SlingReaches.l0 k j n m D b g0 g1 l0 l1 N = some true := by
  intro r
  induction r with
  | zero =>
    intro j hj hr k hk
    obtain ⟨k, rfl⟩ : ∃ i, k = i + 1 := ⟨k - 1, by omega⟩
    rw [swashplatelaw07_SlingReaches.l0]
    rw [if_neg (by omega), works7_total k (by omega)]; rfl
  | succ r ih =>
    intro j hj hr k hk
    obtain ⟨k, rfl⟩ : ∃ i, k = i + 1 := ⟨k - 1, by omega⟩
    rw [swashplatelaw07_SlingReaches.l0]
    rw [if_pos (by omega), rwitness_total n m D b g0 g1 N _ k (by omega)]
    obtain ⟨q, hq, hs⟩ := witness_small n m D b g0 g1 N ((j : Int) == 1)
    rw [hq, Option.bind_some, Option.bind_some, if_neg (by simp), if_pos rfl, sameI_total _ hs k (by omega), Option.bind_some, if_pos rfl, step64 j (by omega)]
    exact ih (j + 1) (by omega) (by omega) k (by omega)
theorem reaches_at (n m D : Int) (b : List S27) (g0 g1 l0 l1 N : Int) (k : Nat) (hk : 1099511628000 < k) : swashplatelaw07_SlingReaches.f k n m D b g0 g1 l0 l1 N = some true := by
  obtain ⟨k, rfl⟩ : ∃ i, k = i + 1 := ⟨k - 1, by omega⟩
  unfold swashplatelaw07_SlingReaches.f
  rw [rreach_total n m D b g0 g1 N (k + 1) (by omega)]
  obtain ⟨q, hq⟩ : ∃ q : Int × Int × Int × Int × Int, sling_Reach.f (k + 1) n m D b g0 g1 N = some q := ⟨_, rfl⟩
  rw [hq, Option.bind_some, Option.bind_some, if_neg (by simp), if_neg (by simp)]
  rw [swashplatelaw07_SlingReaches.j0]
  rw [if_neg (by simp)]
  exact reaches_loop n m D b g0 g1 l0 l1 N 2 0 (by omega) (by omega) k (by omega)
theorem reaches_true (n m D : Int) (b : List S27) (g0 g1 l0 l1 N : Int) : ∃ k, swashplatelaw07_SlingReaches.f k n m D b g0 g1 l0 l1 N = some true := ⟨1099511628001, reaches_at n m D b g0 g1 l0 l1 N _ (by omega)⟩
end Go.Proofs.Yteodlmgmmpkpoaa.PS
end
section
namespace Go.Proofs.Yteodlmgmmpkpoaa.PS
open Go.RowKit Go.Deep Go.ChangeShapes Go.WideShapes Go.ChangeAt Go.Proofs.YteodlmgmmpkpoaaW.PrintWords
set_option linter.unusedVariables false
set_option maxRecDepth 100000 in
theorem liftedSlingReaches (os : Os) (started : os.Started) (H : Type) (enc : TypeId × Value → H) :
    ReturnsInHanded {} Try.checked os 19 .any (Rows.slingReachesSpec.pre6 enc Try.prog Try.f19 Rows.slingReachesRow.domain false) (Rows.slingReachesSpec.post enc Try.prog Try.f19 false true false false) := by
  refine returnsInHanded_of_change (C := Try.checked) ownNone started (by kernel_rfl) Try.func19
    (ChangeSpec.witness6 (enc := enc) (C := Try.checked) false ⟨#[], #[.agg #[.int .i64 0, .int .i64 0, .int .i64 0], .agg #[.slice none 0 0, .int .i64 0, .int .i64 0, .int .i64 0, .int .i64 0, .int .i64 0]], []⟩ 8 (by kernel_rfl) (by kernel_rfl) (by kernel_rfl) (by kernel_rfl)) ?_
  intro W base args ds gs before hval0 hW hcnd _
  have hval : ∀ (j : Nat) t v, Try.f19.params[j]? = some t → args[j]? = some v → Value.okWide Try.prog W .any base t v := hval0
  have hW' := hW
  obtain ⟨p, q, hA0, hV, rfl, hfz, hnd⟩ := hW
  have hA : DataW.TrodAll enc Try.prog W 0 (fun _ => true) true Try.f19.params.toList args.toList ds p := hA0
  rw [Try.params19] at hA hval
  obtain ⟨v0, vs0, d0, ds0, p0, q0, hargs, rfl, rfl, h0, r0⟩ := trodAll_cons hA
  obtain ⟨v1, vs1, d1, ds1, p1, q1, rfl, rfl, rfl, h1, r1⟩ := trodAll_cons r0
  obtain ⟨rfl, rfl, rfl⟩ := trodAll_nil r1
  obtain rfl : args = #[v0, v1] := by cases args; simp_all
  obtain ⟨rfl, rfl⟩ := trodVars_none hV
  have k0 := h0
  have lt0 : ∀ x ∈ p0, x.block < W.heap.size := by obtain ⟨m, hm⟩ := k0; exact DataW.trod_lt m _ _ _ hm
  have k1 := h1
  have lt1 : ∀ x ∈ p1, x.block < W.heap.size := by obtain ⟨m, hm⟩ := k1; exact DataW.trod_lt m _ _ _ hm
  obtain ⟨n0, m0, D0, rfl⟩ := arg105 (hval 0 105 v0 rfl rfl) h0
  obtain ⟨A1, c1, l1, ga1, gb1, lo1, hi1, N1, rfl, o11, o12⟩ := arg122 (hval 1 122 v1 rfl rfl) h1
  clear hA0 hval0
  obtain ⟨kf, hkf⟩ := reaches_true n0 m0 D0 l1 ga1 gb1 lo1 hi1 N1
  refine (swashplatelaw07_SlingReaches.calls kf n0 m0 D0 A1 c1 l1 ga1 gb1 lo1 hi1 N1 true W o12 o11 hkf).mono fun e W' ⟨he, bel⟩ => ?_
  subst he
  exact ⟨_, rfl, _, _, _, [], _, [], hW', trodAll_mk1 (shut_bool Try.underlying4 _), (trodAll_cons_mk (Below.trod laidOut (by kernel_rfl) (of_decide_eq_true (by kernel_rfl)) k0 bel lt0) (trodAll_cons_mk (Below.trod laidOut (by kernel_rfl) (of_decide_eq_true (by kernel_rfl)) k1 bel lt1) trodAll_mk0)), rfl, bel.frame _, fun h => by cases h⟩
theorem factsSlingReaches : joinedFacts Try.prog 19 Try.f19 Rows.slingReachesSpec Rows.slingReachesRow = true := by
  have fk : (Rows.slingReachesRow.plainKeys == Try.prog.plainKeys) = true := factKeys
  have fl : (Rows.slingReachesRow.lifted == Try.prog.liftsFinal) = true := factLifted
  have fm : (Try.prog.make == some Rows.slingReachesRow.make) = true := factMake
  unfold joinedFacts
  repeat' (with_reducible refine Bool.and_eq_true_iff.2 ⟨?_, ?_⟩)
  all_goals first | (with_reducible exact fk) | (with_reducible exact factHeard) | (with_reducible exact factEnter) | (with_reducible exact fl) | (with_reducible exact fm) | kernel_rfl
theorem overSlingReaches : Rows.slingReachesRow.holds Try.pinned (OpenSpec.ofChange Rows.slingReachesSpec) :=
  OpenClaim.holds_of_wide 19 Try.f19 rfl rfl rfl rfl rfl rfl rfl ⟨rfl, rfl, rfl, rfl, rfl⟩ rfl rfl rfl rfl rfl (by kernel_rfl) Try.func19 factsSlingReaches
    (of_decide_eq_true (by kernel_rfl)) (by unfold Func.isWrapper; first | (rw [if_pos (by decide +kernel)]; kernel_rfl) | (rw [if_neg (by decide +kernel)]; exact ⟨rfl, rfl⟩))
    (fun os started H enc _ => liftedSlingReaches os started H enc)
theorem slingReachesProved : Rows.SlingReachesSaid := overSlingReaches
#print axioms slingReachesProved
end Go.Proofs.Yteodlmgmmpkpoaa.PS
end
