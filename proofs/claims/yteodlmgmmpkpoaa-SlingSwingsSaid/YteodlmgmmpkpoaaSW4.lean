-- Printed by a program of this session out of the translation (hybrid print) and out of hand proofs. Not trusted: Lean checks it.
import Derived.Below
import Derived.Deep.Draws
import Derived.Deep.AppendLies
import Derived.Maps.AppendAt
import Derived.OwnWalk
import Derived.Laws.BytesArg
import Derived.Laws.MakeOwn
import Derived.Laws.OwnMore
import Derived.Deep.OwnRows
import Derived.Tactics
import Derived.Lib.ConvBytes
import Derived.Laws.Slices
import Derived.WalkKit
import Derived.KernelRfl
import Derived.RowKit3
import Derived.Deep.LoopGhost
import Derived.Deep.QuietTactic
import Derived.BigQuiet
import Derived.WideLaws
import Derived.Deep.DeepCutAuto
import Derived.Deep.CutBlock
import Derived.Deep.RegionHeld3
import Derived.Laws.Rows
import Derived.Lib.AppendStr
import Derived.ArgAppend
import Derived.Laws.IdiomCopy
import Derived.RowKit
import Derived.OrdersHeld
import Derived.Laws.BitsLemmas
import Derived.Laws.StructEq
import Derived.Test.YteodlmgmmpkpoaaProg
import Derived.Laws.EntriesVeiled
import Derived.StillTailTactics
import Derived.RangeFuncNested
import Derived.RangeFuncBound
import Derived.RangeFuncCalls
import Derived.RangeFuncLeaves
import Derived.Shelf.Abstract
import Derived.OwnWalkIn
import Derived.TacticsInMore
import Derived.LoopNIn
import Derived.LoopIn
import Derived.RegionIn
import Derived.Deep.Strs
import Derived.Deep.Slices
import Derived.OpenShut
import Derived.ProofKit
import Derived.Carry
import Derived.Test.YteodlmgmmpkpoaaRows
import Derived.Lib.SmallJoins
import Derived.Test.YteodlmgmmpkpoaaSW3
section
namespace Go.Proofs.Yteodlmgmmpkpoaa.PS
open Go.RowKit Go.Proofs.YteodlmgmmpkpoaaW.PrintWords Go.Proofs.YteodlmgmmpkpoaaW.PrintLast Go.Proofs.YteodlmgmmpkpoaaW.PrintMore
attribute [local go_sem] max2_int min2_int max_two min_two max_three min_three max_four min_four   -- for this text's walks alone
set_option linter.unusedVariables false
set_option linter.unusedSimpArgs false
def swashplatelaw07_Example.f  : Option (Int × List Int × List Int × (List (List Int)) × Int) := some (50, (([0, 50] : List Int)), (([0, 20] : List Int)), (([(([300, 200] : List Int)), (([200, 100] : List Int))] : List (List Int))), 2)
set_option maxHeartbeats 8000000 in
set_option maxRecDepth 100000 in
theorem swashplatelaw07_Example.calls  (r1 : Int) (r2 : List Int) (r3 : List Int) (r4 : List (List Int)) (r5 : Int) (w : World) (h : swashplatelaw07_Example.f  = some (r1, r2, r3, r4, r5)) :
  Calls Try.prog 138 #[] w fun e w' => ∃ v1_ v2_ v3_ : Value, e = .returned (.agg #[.int .i64 r1, v1_, v2_, v3_, .int .i64 r5]) ∧ Kd.R (Kd.int .i64) 3 w' w.heap.size (fun k_ => (w.heap.size ≤ k_) ∧ some k_ ≠ (v2_ : Value).ownBlock) v1_ r2 ∧ Kd.R (Kd.int .i64) 3 w' w.heap.size (fun k_ => (w.heap.size ≤ k_) ∧ some k_ ≠ (v1_ : Value).ownBlock) v2_ r3 ∧ Kd.N (Kd.slice 3 (Kd.int .i64)) 22 w' w.heap.size (fun k_ => (w.heap.size ≤ k_) ∧ some k_ ≠ (v1_ : Value).ownBlock ∧ some k_ ≠ (v2_ : Value).ownBlock) v3_ r4 ∧ Below w.heap.size w w' := by
 have hu62 := Try.underlying62
 have hu25 := Try.underlying25
 have HB := Aside0.mk (Below.refl w.heap.size w)
 have H : (some (50, (([0, 50] : List Int)), (([0, 20] : List Int)), (([(([300, 200] : List Int)), (([200, 100] : List Int))] : List (List Int))), 2)) = some (r1, r2, r3, r4, r5) := h
 clear h
 obtain ⟨y191, hy191⟩ : ∃ y_ : List Int, y_ = (([0, 50] : List Int)) := ⟨_, rfl⟩
 replace H : (some (50, y191, (([0, 20] : List Int)), (([(([300, 200] : List Int)), (([200, 100] : List Int))] : List (List Int))), 2)) = some (r1, r2, r3, r4, r5) := by first | (rw [hy191]; with_reducible exact H) | (have H2_ := (Option.bind_some _ _).symm.trans H; rw [hy191]; with_reducible exact H2_) | (have H2_ := (Option.bind_some _ _).symm.trans H; with_reducible exact H2_) | with_reducible exact H | (rw [hy191]; exact H) | exact H
 have Ny191 := Aside0.mk hy191
 clear hy191
 obtain ⟨y194, hy194⟩ : ∃ y_ : List Int, y_ = (([0, 20] : List Int)) := ⟨_, rfl⟩
 replace H : (some (50, y191, y194, (([(([300, 200] : List Int)), (([200, 100] : List Int))] : List (List Int))), 2)) = some (r1, r2, r3, r4, r5) := by first | (rw [hy194]; with_reducible exact H) | (have H2_ := (Option.bind_some _ _).symm.trans H; rw [hy194]; with_reducible exact H2_) | (have H2_ := (Option.bind_some _ _).symm.trans H; with_reducible exact H2_) | with_reducible exact H | (rw [hy194]; exact H) | exact H
 have Ny194 := Aside0.mk hy194
 clear hy194
 obtain ⟨y197, hy197⟩ : ∃ y_ : List Int, y_ = (([300, 200] : List Int)) := ⟨_, rfl⟩
 replace H : (some (50, y191, y194, (([y197, (([200, 100] : List Int))] : List (List Int))), 2)) = some (r1, r2, r3, r4, r5) := by first | (rw [hy197]; with_reducible exact H) | (have H2_ := (Option.bind_some _ _).symm.trans H; rw [hy197]; with_reducible exact H2_) | (have H2_ := (Option.bind_some _ _).symm.trans H; with_reducible exact H2_) | with_reducible exact H | (rw [hy197]; exact H) | exact H
 have Ny197 := Aside0.mk hy197
 clear hy197
 obtain ⟨y200, hy200⟩ : ∃ y_ : List Int, y_ = (([200, 100] : List Int)) := ⟨_, rfl⟩
 replace H : (some (50, y191, y194, (([y197, y200] : List (List Int))), 2)) = some (r1, r2, r3, r4, r5) := by first | (rw [hy200]; with_reducible exact H) | (have H2_ := (Option.bind_some _ _).symm.trans H; rw [hy200]; with_reducible exact H2_) | (have H2_ := (Option.bind_some _ _).symm.trans H; with_reducible exact H2_) | with_reducible exact H | (rw [hy200]; exact H) | exact H
 have Ny200 := Aside0.mk hy200
 clear hy200
 obtain ⟨y203, hy203⟩ : ∃ y_ : List (List Int), y_ = (([y197, y200] : List (List Int))) := ⟨_, rfl⟩
 replace H : (some (50, y191, y194, y203, 2)) = some (r1, r2, r3, r4, r5) := by first | (rw [hy203]; with_reducible exact H) | (have H2_ := (Option.bind_some _ _).symm.trans H; rw [hy203]; with_reducible exact H2_) | (have H2_ := (Option.bind_some _ _).symm.trans H; with_reducible exact H2_) | with_reducible exact H | (rw [hy203]; exact H) | exact H
 have Ny203 := Aside0.mk hy203
 clear hy203
 simp only [Option.some.injEq, Prod.mk.injEq] at H
 obtain ⟨rfl, rfl, rfl, rfl, rfl⟩ := H
 go_enter Try.func138, Try.ntmps138
 go_wp2_with (first | ((with_reducible refine gate_dst (N := 0) rfl ?_); refine box_event ?hg (N := 0) ?hd (cs := #[.int .i64 0, .slice none 0 0, .slice none 0 0, .slice none 0 0, .int .i64 0]) (t := 62) ?hr ?_; (case hd => rfl); (case hg => rfl); (case hr => first | (go_simp; done) | (go_simp; rfl)); intro gb190 hg w1 hbox hb; have n0_ := Aside0.mk (below_step (bl_ HB.out) hb); have n1_ := Aside0.mk (hbox); have n2_ := Aside0.mk (szl_ hg HB.out); have n3_ := Aside0.mk (szl_ hg HB.out); clear HB; have HB := n0_; have BK190 := n1_; have GW190 := n2_; have GE190 := n3_; clear n0_ n1_ n2_ n3_ hb hbox hg) | ((with_reducible refine gate_dst (N := 1) rfl ?_); refine Kd.R_lit (Kd.int .i64) _ 3 ?hg (N := 1) ?hd (xs := ([0, 50] : List Int)) (inner := [.int .i64 0, .int .i64 50]) (ok := fun _ => True) (okp := fun _ => True) ?hr ?hp (fun _ hk => hk) trivial (Below.refl _ _) (Nat.le_refl _) (by simp) ?_; (case hd => rfl); (case hg => rfl); (case hr => first | (go_simp; done) | (go_simp; rfl)); (case hp => exact (Reps.one (show Kd.M (Kd.int .i64) _ _ _ 0 [.int .i64 0] from rfl) (Reps.one (show Kd.M (Kd.int .i64) _ _ _ 50 [.int .i64 50] from rfl) (Reps.none _ _)))); intro v192 w2 ho3 hb hg_ hnew_; clear hg_ hnew_; (first | rw [← Ny191.out] at ho3 | (simp only [Int.reduceToNat] at ho3; rw [← Ny191.out] at ho3)); have n0_ := Aside0.mk (Kd.R_lower (Kd.R_newM (M := fun k_ => (w.heap.size ≤ k_)) ho3 (below_size (bl_ HB.out)) (fun k_ h_ => h_)) (below_size (bl_ HB.out))); have n1_ := Aside0.mk (blk_below (bk_ BK190.out) hb); have n2_ := Aside0.mk (below_step (bl_ HB.out) hb); clear BK190 HB; have HO193 := n0_; have BK190 := n1_; have HB := n2_; clear n0_ n1_ n2_ hb ho3) | ((with_reducible refine gate_dst (N := 2) rfl ?_); refine Kd.R_lit (Kd.int .i64) _ 3 ?hg (N := 2) ?hd (xs := ([0, 20] : List Int)) (inner := [.int .i64 0, .int .i64 20]) (ok := fun _ => True) (okp := fun _ => True) ?hr ?hp (fun _ hk => hk) trivial (Below.refl _ _) (Nat.le_refl _) (by simp) ?_; (case hd => rfl); (case hg => rfl); (case hr => first | (go_simp; done) | (go_simp; rfl)); (case hp => exact (Reps.one (show Kd.M (Kd.int .i64) _ _ _ 0 [.int .i64 0] from rfl) (Reps.one (show Kd.M (Kd.int .i64) _ _ _ 20 [.int .i64 20] from rfl) (Reps.none _ _)))); intro v195 w4 ho5 hb hg_ hnew_; clear hg_ hnew_; (first | rw [← Ny194.out] at ho5 | (simp only [Int.reduceToNat] at ho5; rw [← Ny194.out] at ho5)); have n0_ := Aside0.mk (Kd.R_elder' (by (with_reducible repeat (first | apply Kd.R_alloc | apply Kd.R_drewN | apply Kd.R_drew)); exact HO193.out) (Kd.R_base ho5) hb); have n1_ := Aside0.mk (Kd.R_lower (Kd.R_new' (Kd.R_newM (M := fun k_ => (w.heap.size ≤ k_)) ho5 (below_size (bl_ HB.out)) (fun k_ h_ => h_)) (Kd.R_lt (by (with_reducible repeat (first | apply Kd.R_alloc | apply Kd.R_drewN | apply Kd.R_drew)); exact HO193.out))) (below_size (bl_ HB.out))); have n2_ := Aside0.mk (blk_below (bk_ BK190.out) hb); have n3_ := Aside0.mk (below_step (bl_ HB.out) hb); clear HO193 BK190 HB; have HO193 := n0_; have HO196 := n1_; have BK190 := n2_; have HB := n3_; clear n0_ n1_ n2_ n3_ hb ho5) | ((with_reducible refine gate_dst (N := 3) rfl ?_); refine Kd.R_lit (Kd.int .i64) _ 3 ?hg (N := 3) ?hd (xs := ([300, 200] : List Int)) (inner := [.int .i64 300, .int .i64 200]) (ok := fun _ => True) (okp := fun _ => True) ?hr ?hp (fun _ hk => hk) trivial (Below.refl _ _) (Nat.le_refl _) (by simp) ?_; (case hd => rfl); (case hg => rfl); (case hr => first | (go_simp; done) | (go_simp; rfl)); (case hp => exact (Reps.one (show Kd.M (Kd.int .i64) _ _ _ 300 [.int .i64 300] from rfl) (Reps.one (show Kd.M (Kd.int .i64) _ _ _ 200 [.int .i64 200] from rfl) (Reps.none _ _)))); intro v198 w6 ho7 hb hg_ hnew_; clear hg_ hnew_; (first | rw [← Ny197.out] at ho7 | (simp only [Int.reduceToNat] at ho7; rw [← Ny197.out] at ho7)); have n0_ := Aside0.mk (Kd.R_elder' (by (with_reducible repeat (first | apply Kd.R_alloc | apply Kd.R_drewN | apply Kd.R_drew)); exact HO193.out) (Kd.R_base ho7) hb); have n1_ := Aside0.mk (Kd.R_elder' (by (with_reducible repeat (first | apply Kd.R_alloc | apply Kd.R_drewN | apply Kd.R_drew)); exact HO196.out) (Kd.R_base ho7) hb); have n2_ := Aside0.mk (Kd.R_lower (Kd.R_new' (Kd.R_new' (Kd.R_newM (M := fun k_ => (w.heap.size ≤ k_)) ho7 (below_size (bl_ HB.out)) (fun k_ h_ => h_)) (Kd.R_lt (by (with_reducible repeat (first | apply Kd.R_alloc | apply Kd.R_drewN | apply Kd.R_drew)); exact HO193.out))) (Kd.R_lt (by (with_reducible repeat (first | apply Kd.R_alloc | apply Kd.R_drewN | apply Kd.R_drew)); exact HO196.out))) (below_size (bl_ HB.out))); have n3_ := Aside0.mk (blk_below (bk_ BK190.out) hb); have n4_ := Aside0.mk (below_step (bl_ HB.out) hb); clear HO193 HO196 BK190 HB; have HO193 := n0_; have HO196 := n1_; have HO199 := n2_; have BK190 := n3_; have HB := n4_; clear n0_ n1_ n2_ n3_ n4_ hb ho7) | ((with_reducible refine gate_dst (N := 4) rfl ?_); refine Kd.R_lit (Kd.int .i64) _ 3 ?hg (N := 4) ?hd (xs := ([200, 100] : List Int)) (inner := [.int .i64 200, .int .i64 100]) (ok := fun _ => True) (okp := fun _ => True) ?hr ?hp (fun _ hk => hk) trivial (Below.refl _ _) (Nat.le_refl _) (by simp) ?_; (case hd => rfl); (case hg => rfl); (case hr => first | (go_simp; done) | (go_simp; rfl)); (case hp => exact (Reps.one (show Kd.M (Kd.int .i64) _ _ _ 200 [.int .i64 200] from rfl) (Reps.one (show Kd.M (Kd.int .i64) _ _ _ 100 [.int .i64 100] from rfl) (Reps.none _ _)))); intro v201 w8 ho9 hb hg_ hnew_; clear hg_ hnew_; (first | rw [← Ny200.out] at ho9 | (simp only [Int.reduceToNat] at ho9; rw [← Ny200.out] at ho9)); have n0_ := Aside0.mk (Kd.R_elder' (by (with_reducible repeat (first | apply Kd.R_alloc | apply Kd.R_drewN | apply Kd.R_drew)); exact HO193.out) (Kd.R_base ho9) hb); have n1_ := Aside0.mk (Kd.R_elder' (by (with_reducible repeat (first | apply Kd.R_alloc | apply Kd.R_drewN | apply Kd.R_drew)); exact HO196.out) (Kd.R_base ho9) hb); have n2_ := Aside0.mk (Kd.R_elder' (by (with_reducible repeat (first | apply Kd.R_alloc | apply Kd.R_drewN | apply Kd.R_drew)); exact HO199.out) (Kd.R_base ho9) hb); have n3_ := Aside0.mk (Kd.R_lower (Kd.R_new' (Kd.R_new' (Kd.R_new' (Kd.R_newM (M := fun k_ => (w.heap.size ≤ k_)) ho9 (below_size (bl_ HB.out)) (fun k_ h_ => h_)) (Kd.R_lt (by (with_reducible repeat (first | apply Kd.R_alloc | apply Kd.R_drewN | apply Kd.R_drew)); exact HO193.out))) (Kd.R_lt (by (with_reducible repeat (first | apply Kd.R_alloc | apply Kd.R_drewN | apply Kd.R_drew)); exact HO196.out))) (Kd.R_lt (by (with_reducible repeat (first | apply Kd.R_alloc | apply Kd.R_drewN | apply Kd.R_drew)); exact HO199.out))) (below_size (bl_ HB.out))); have n4_ := Aside0.mk (blk_below (bk_ BK190.out) hb); have n5_ := Aside0.mk (below_step (bl_ HB.out) hb); clear HO193 HO196 HO199 BK190 HB; have HO193 := n0_; have HO196 := n1_; have HO199 := n2_; have HO202 := n3_; have BK190 := n4_; have HB := n5_; clear n0_ n1_ n2_ n3_ n4_ n5_ hb ho9; obtain ⟨Ao10, co10, eo10⟩ := Kd.R_slice HO199.out; subst eo10; obtain ⟨Ao11, co11, eo11⟩ := Kd.R_slice HO202.out; subst eo11) | ((with_reducible refine gate_dst (N := 5) rfl ?_); refine Kd.N_lit (Kd.slice 3 (Kd.int .i64)) _ 22 ?hg (N' := 5) ?hd (xs := ([y197, y200] : List (List Int))) (inner := [.slice Ao10 y197.length co10, .slice Ao11 y200.length co11]) (ok := (fun k_ => (w.heap.size ≤ k_) ∧ some k_ ≠ (v192 : Value).ownBlock ∧ some k_ ≠ (v195 : Value).ownBlock ∧ k_ ≠ gb190)) (okp := (fun k_ => (w.heap.size ≤ k_) ∧ some k_ ≠ (v192 : Value).ownBlock ∧ some k_ ≠ (v195 : Value).ownBlock ∧ k_ ≠ gb190)) ?hr ?hp (fun _ hk => hk) ((show ∀ k_, w8.heap.size ≤ k_ → (fun k_ => (w.heap.size ≤ k_) ∧ some k_ ≠ (v192 : Value).ownBlock ∧ some k_ ≠ (v195 : Value).ownBlock ∧ k_ ≠ gb190) k_ from fun k_ hk => ⟨(Nat.le_trans (below_size (bl_ HB.out)) hk), Kd.fresh' (Kd.R_lt (by (with_reducible repeat (first | apply Kd.R_alloc | apply Kd.R_drewN | apply Kd.R_drew)); exact HO193.out)) k_ hk, Kd.fresh' (Kd.R_lt (by (with_reducible repeat (first | apply Kd.R_alloc | apply Kd.R_drewN | apply Kd.R_drew)); exact HO196.out)) k_ hk, Kd.freshB (bk_ BK190.out) k_ hk⟩) _ (Nat.le_refl _)) (Below.refl _ _) (Nat.le_refl _) (by simp) ?_; (case hd => rfl); (case hg => rfl); (case hr => first | (go_simp; done) | (go_simp; rfl)); (case hp => exact (Reps.one (show Kd.FK (Kd.slice 3 (Kd.int .i64)) _ _ y197 [.slice Ao10 y197.length co10] from (Kd.FK_slice_mk (Kd.R_reads' (Kd.R_mono (ok' := (fun k_ => (w.heap.size ≤ k_) ∧ some k_ ≠ (v192 : Value).ownBlock ∧ some k_ ≠ (v195 : Value).ownBlock ∧ k_ ≠ gb190)) (Kd.R_types (HO199.out) BK190.out (by decide)) (fun k_ hk => ⟨hk.1.1.1.1.1, ⟨hk.1.1.1.2, ⟨hk.1.1.2, hk.2⟩⟩⟩))).2.1 (Kd.R_F (Kd.R_mono (ok' := (fun k_ => (w.heap.size ≤ k_) ∧ some k_ ≠ (v192 : Value).ownBlock ∧ some k_ ≠ (v195 : Value).ownBlock ∧ k_ ≠ gb190)) (Kd.R_types (HO199.out) BK190.out (by decide)) (fun k_ hk => ⟨hk.1.1.1.1.1, ⟨hk.1.1.1.2, ⟨hk.1.1.2, hk.2⟩⟩⟩))))) (Reps.one (show Kd.FK (Kd.slice 3 (Kd.int .i64)) _ _ y200 [.slice Ao11 y200.length co11] from (Kd.FK_slice_mk (Kd.R_reads' (Kd.R_mono (ok' := (fun k_ => (w.heap.size ≤ k_) ∧ some k_ ≠ (v192 : Value).ownBlock ∧ some k_ ≠ (v195 : Value).ownBlock ∧ k_ ≠ gb190)) (Kd.R_types (HO202.out) BK190.out (by decide)) (fun k_ hk => ⟨hk.1.1.1.1.1, ⟨hk.1.1.1.2, ⟨hk.1.1.2, hk.2⟩⟩⟩))).2.1 (Kd.R_F (Kd.R_mono (ok' := (fun k_ => (w.heap.size ≤ k_) ∧ some k_ ≠ (v192 : Value).ownBlock ∧ some k_ ≠ (v195 : Value).ownBlock ∧ k_ ≠ gb190)) (Kd.R_types (HO202.out) BK190.out (by decide)) (fun k_ hk => ⟨hk.1.1.1.1.1, ⟨hk.1.1.1.2, ⟨hk.1.1.2, hk.2⟩⟩⟩))))) (Reps.none _ _)))); intro v204 w12 ho13 hb hg_ hnew_; clear hg_ hnew_; (first | rw [← Ny203.out] at ho13 | (simp only [Int.reduceToNat] at ho13; rw [← Ny203.out] at ho13)); have n0_ := Aside0.mk (Kd.R_below (by (with_reducible repeat (first | apply Kd.R_alloc | apply Kd.R_drewN | apply Kd.R_drew)); exact HO193.out) hb); have n1_ := Aside0.mk (Kd.R_below (by (with_reducible repeat (first | apply Kd.R_alloc | apply Kd.R_drewN | apply Kd.R_drew)); exact HO196.out) hb); have n2_ := Aside0.mk (Kd.N_lower ho13 (below_size (bl_ HB.out))); have n3_ := Aside0.mk (blk_below (bk_ BK190.out) hb); have n4_ := Aside0.mk (below_step (bl_ HB.out) hb); clear HO193 HO196 BK190 HB HO199 HO202; have HO193 := n0_; have HO196 := n1_; have HO205 := n2_; have BK190 := n3_; have HB := n4_; clear n0_ n1_ n2_ n3_ n4_ hb ho13; obtain ⟨Ao14, co14, eo14⟩ := Kd.N_slice HO205.out; subst eo14; obtain ⟨Ao15, co15, eo15⟩ := Kd.R_slice HO196.out; subst eo15; obtain ⟨Ao16, co16, eo16⟩ := Kd.R_slice HO193.out; subst eo16; have hcz17_0 : w12.cell? ⟨gb190, 0, none⟩ = some (.int .i64 0) := (blk_cell BK190.out 0).trans rfl; have hcz17_1 : w12.cell? ⟨gb190, 1, none⟩ = some (.slice none 0 0) := (blk_cell BK190.out 1).trans rfl; have hcz17_2 : w12.cell? ⟨gb190, 2, none⟩ = some (.slice none 0 0) := (blk_cell BK190.out 2).trans rfl; have hcz17_3 : w12.cell? ⟨gb190, 3, none⟩ = some (.slice none 0 0) := (blk_cell BK190.out 3).trans rfl; have hcz17_4 : w12.cell? ⟨gb190, 4, none⟩ = some (.int .i64 0) := (blk_cell BK190.out 4).trans rfl; have hfz17_0 := blk_frozen BK190.out 0; have hfz17_1 := blk_frozen BK190.out 1; have hfz17_2 := blk_frozen BK190.out 2; have hfz17_3 := blk_frozen BK190.out 3; have hfz17_4 := blk_frozen BK190.out 4))
 refine bodyPost_ret (results_cell_row rfl _ _ gb190 62 #[.int .i64 50, .slice Ao16 y191.length co16, .slice Ao15 y194.length co15, .slice Ao14 y203.length co14, .int .i64 2] (0, 0) _ rfl (by (with_reducible repeat (first | refine blk_drewN ?_ _ | refine blk_drew ?_ | refine blk_alloc ?_ _)); refine blk_put (cs := #[.int .i64 50, .slice Ao16 y191.length co16, .slice Ao15 y194.length co15, .slice Ao14 y203.length co14, .int .i64 0]) ?_ 4 _ rfl; (with_reducible repeat (first | refine blk_drewN ?_ _ | refine blk_drew ?_ | refine blk_alloc ?_ _)); refine blk_put (cs := #[.int .i64 50, .slice Ao16 y191.length co16, .slice Ao15 y194.length co15, .slice none 0 0, .int .i64 0]) ?_ 3 _ rfl; (with_reducible repeat (first | refine blk_drewN ?_ _ | refine blk_drew ?_ | refine blk_alloc ?_ _)); refine blk_put (cs := #[.int .i64 50, .slice Ao16 y191.length co16, .slice none 0 0, .slice none 0 0, .int .i64 0]) ?_ 2 _ rfl; (with_reducible repeat (first | refine blk_drewN ?_ _ | refine blk_drew ?_ | refine blk_alloc ?_ _)); refine blk_put (cs := #[.int .i64 50, .slice none 0 0, .slice none 0 0, .slice none 0 0, .int .i64 0]) ?_ 1 _ rfl; (with_reducible repeat (first | refine blk_drewN ?_ _ | refine blk_drew ?_ | refine blk_alloc ?_ _)); refine blk_put (cs := #[.int .i64 0, .slice none 0 0, .slice none 0 0, .slice none 0 0, .int .i64 0]) ?_ 0 _ rfl; (with_reducible repeat (first | refine blk_drewN ?_ _ | refine blk_drew ?_ | refine blk_alloc ?_ _)); exact BK190.out) Try.underlying62 rfl (by kernel_rfl)) rfl ?_
 exact ⟨_, _, _, by first | rfl | (simp [errW_none, errW_some] <;> rfl) | (simp [*, errW_none, errW_some] <;> rfl), by (with_reducible repeat (first | apply Kd.R_alloc | apply Kd.R_drewN | apply Kd.R_drew)); exact Kd.R_mono (Kd.R_far (p := ⟨gb190, 4, none⟩) (Kd.R_far (p := ⟨gb190, 3, none⟩) (Kd.R_far (p := ⟨gb190, 2, none⟩) (Kd.R_far (p := ⟨gb190, 1, none⟩) (Kd.R_far (p := ⟨gb190, 0, none⟩) (Kd.R_types HO193.out BK190.out (by decide)) (fun _ hk => hk.2) (.int .i64 50)) (fun _ hk => hk.2) (.slice Ao16 y191.length co16)) (fun _ hk => hk.2) (.slice Ao15 y194.length co15)) (fun _ hk => hk.2) (.slice Ao14 y203.length co14)) (fun _ hk => hk.2) (.int .i64 2)) (fun _ hk => ⟨hk.1.1.1.1.1, hk.1.1.1.2⟩), by (with_reducible repeat (first | apply Kd.R_alloc | apply Kd.R_drewN | apply Kd.R_drew)); exact Kd.R_mono (Kd.R_far (p := ⟨gb190, 4, none⟩) (Kd.R_far (p := ⟨gb190, 3, none⟩) (Kd.R_far (p := ⟨gb190, 2, none⟩) (Kd.R_far (p := ⟨gb190, 1, none⟩) (Kd.R_far (p := ⟨gb190, 0, none⟩) (Kd.R_types HO196.out BK190.out (by decide)) (fun _ hk => hk.2) (.int .i64 50)) (fun _ hk => hk.2) (.slice Ao16 y191.length co16)) (fun _ hk => hk.2) (.slice Ao15 y194.length co15)) (fun _ hk => hk.2) (.slice Ao14 y203.length co14)) (fun _ hk => hk.2) (.int .i64 2)) (fun _ hk => ⟨hk.1.1.1.1.1, hk.1.1.1.2⟩), by (with_reducible repeat (first | apply Kd.N_alloc | apply Kd.N_drewN | apply Kd.N_drew)); exact Kd.N_mono (Kd.N_far (p := ⟨gb190, 4, none⟩) (Kd.N_far (p := ⟨gb190, 3, none⟩) (Kd.N_far (p := ⟨gb190, 2, none⟩) (Kd.N_far (p := ⟨gb190, 1, none⟩) (Kd.N_far (p := ⟨gb190, 0, none⟩) (Kd.N_mono HO205.out (fun k_ hk => (⟨hk, hk.2.2.2⟩ : _ ∧ k_ ≠ gb190))) (fun _ hk => hk.2) (.int .i64 50)) (fun _ hk => hk.2) (.slice Ao16 y191.length co16)) (fun _ hk => hk.2) (.slice Ao15 y194.length co15)) (fun _ hk => hk.2) (.slice Ao14 y203.length co14)) (fun _ hk => hk.2) (.int .i64 2)) (fun _ hk => ⟨hk.1.1, ⟨hk.1.2.1, hk.1.2.2.1⟩⟩), bl_ HB.out⟩
end Go.Proofs.Yteodlmgmmpkpoaa.PS
end
section
namespace Go.Proofs.Yteodlmgmmpkpoaa.PS
open Go.RowKit Go.Proofs.YteodlmgmmpkpoaaW.PrintWords Go.Proofs.YteodlmgmmpkpoaaW.PrintLast Go.Proofs.YteodlmgmmpkpoaaW.PrintMore
attribute [local go_sem] max2_int min2_int max_two min_two max_three min_three max_four min_four   -- for this text's walks alone
set_option linter.unusedVariables false
set_option linter.unusedSimpArgs false
def swashplatelaw07_works.f (k : Nat)  : Option (Bool) := (sling_Swing.f 1 1 2 1 1 (([0, 1] : List Int))).bind fun bt209 => ((swashplatelaw07_Example.f).bind fun bt213 => ((sling_Deepest.f bt213.1 bt213.2.1 bt213.2.2.1 bt213.2.2.2.1 bt213.2.2.2.2 0 10 200).bind fun bt224 => (if bt209.2 = 0 then (if bt224.2 = 0 then (if bt224.1 = 25 then ((swashplatelaw07_sameFractions.f k bt209.1 (([(⟨1, 1⟩ : S28), (⟨3, 2⟩ : S28)] : List (S28)))).bind fun t229 => (some t229)) else (some false)) else (some false)) else (some false))))
set_option maxHeartbeats 8000000 in
set_option maxRecDepth 100000 in
theorem swashplatelaw07_works.calls (k : Nat)  (r : Bool) (w : World) (h : swashplatelaw07_works.f k  = some r) :
  Calls Try.prog 75 #[] w fun e w' => e = .returned (.bool r) ∧ Below w.heap.size w w' := by
 have hu105 := Try.underlying105
 have hu28 := Try.underlying28
 have hu27 := Try.underlying27
 have HB := Aside0.mk (Below.refl w.heap.size w)
 have H : ((sling_Swing.f 1 1 2 1 1 (([0, 1] : List Int))).bind fun bt209 => ((swashplatelaw07_Example.f).bind fun bt213 => ((sling_Deepest.f bt213.1 bt213.2.1 bt213.2.2.1 bt213.2.2.2.1 bt213.2.2.2.2 0 10 200).bind fun bt224 => (if bt209.2 = 0 then (if bt224.2 = 0 then (if bt224.1 = 25 then ((swashplatelaw07_sameFractions.f k bt209.1 (([(⟨1, 1⟩ : S28), (⟨3, 2⟩ : S28)] : List (S28)))).bind fun t229 => (some t229)) else (some false)) else (some false)) else (some false))))) = some r := h
 clear h
 obtain ⟨y206, hy206⟩ : ∃ y_ : List Int, y_ = (([0, 1] : List Int)) := ⟨_, rfl⟩
 replace H : ((sling_Swing.f 1 1 2 1 1 y206).bind fun bt209 => ((swashplatelaw07_Example.f).bind fun bt213 => ((sling_Deepest.f bt213.1 bt213.2.1 bt213.2.2.1 bt213.2.2.2.1 bt213.2.2.2.2 0 10 200).bind fun bt224 => (if bt209.2 = 0 then (if bt224.2 = 0 then (if bt224.1 = 25 then ((swashplatelaw07_sameFractions.f k bt209.1 (([(⟨1, 1⟩ : S28), (⟨3, 2⟩ : S28)] : List (S28)))).bind fun t229 => (some t229)) else (some false)) else (some false)) else (some false))))) = some r := by first | (rw [hy206]; with_reducible exact H) | (have H2_ := (Option.bind_some _ _).symm.trans H; rw [hy206]; with_reducible exact H2_) | (have H2_ := (Option.bind_some _ _).symm.trans H; with_reducible exact H2_) | with_reducible exact H | (rw [hy206]; exact H) | exact H
 have Ny206 := Aside0.mk hy206
 clear hy206
 replace H := Option.bind_eq_some_iff.mp H
 obtain ⟨⟨t209, t212⟩, A10, H⟩ := H
 replace H : ((swashplatelaw07_Example.f).bind fun bt213 => ((sling_Deepest.f bt213.1 bt213.2.1 bt213.2.2.1 bt213.2.2.2.1 bt213.2.2.2.2 0 10 200).bind fun bt224 => (if t212 = 0 then (if bt224.2 = 0 then (if bt224.1 = 25 then ((swashplatelaw07_sameFractions.f k t209 (([(⟨1, 1⟩ : S28), (⟨3, 2⟩ : S28)] : List (S28)))).bind fun t229 => (some t229)) else (some false)) else (some false)) else (some false)))) = some r := H
 have A1 := Aside0.mk A10
 clear A10
 replace H := Option.bind_eq_some_iff.mp H
 obtain ⟨⟨t213, t214, t217, t220, t223⟩, A20, H⟩ := H
 replace H : ((sling_Deepest.f t213 t214 t217 t220 t223 0 10 200).bind fun bt224 => (if t212 = 0 then (if bt224.2 = 0 then (if bt224.1 = 25 then ((swashplatelaw07_sameFractions.f k t209 (([(⟨1, 1⟩ : S28), (⟨3, 2⟩ : S28)] : List (S28)))).bind fun t229 => (some t229)) else (some false)) else (some false)) else (some false))) = some r := H
 have A2 := Aside0.mk A20
 clear A20
 replace H := Option.bind_eq_some_iff.mp H
 obtain ⟨⟨t224, t225⟩, A30, H⟩ := H
 replace H : (if t212 = 0 then (if t225 = 0 then (if t224 = 25 then ((swashplatelaw07_sameFractions.f k t209 (([(⟨1, 1⟩ : S28), (⟨3, 2⟩ : S28)] : List (S28)))).bind fun t229 => (some t229)) else (some false)) else (some false)) else (some false)) = some r := H
 have A3 := Aside0.mk A30
 clear A30
 by_cases c4 : t212 = 0
 ·
  rw [if_pos c4] at H
  have c4b0 : (t212 == 0) = true := beq_iff_eq.mpr c4
  have c4b1 : (t212 != 0) = false := bne_eq_false_iff_eq.mpr c4
  clear c4
  by_cases c5 : t225 = 0
  ·
   rw [if_pos c5] at H
   have c5b0 : (t225 == 0) = true := beq_iff_eq.mpr c5
   have c5b1 : (t225 != 0) = false := bne_eq_false_iff_eq.mpr c5
   clear c5
   by_cases c6 : t224 = 25
   ·
    rw [if_pos c6] at H
    have c6b0 : (t224 == 25) = true := beq_iff_eq.mpr c6
    have c6b1 : (t224 != 25) = false := bne_eq_false_iff_eq.mpr c6
    clear c6
    obtain ⟨y226, hy226⟩ : ∃ y_ : List (S28), y_ = (([(⟨1, 1⟩ : S28), (⟨3, 2⟩ : S28)] : List (S28))) := ⟨_, rfl⟩
    replace H : ((swashplatelaw07_sameFractions.f k t209 y226).bind fun t229 => (some t229)) = some r := by first | (rw [hy226]; with_reducible exact H) | (have H2_ := (Option.bind_some _ _).symm.trans H; rw [hy226]; with_reducible exact H2_) | (have H2_ := (Option.bind_some _ _).symm.trans H; with_reducible exact H2_) | with_reducible exact H | (rw [hy226]; exact H) | exact H
    have Ny226 := Aside0.mk hy226
    clear hy226
    replace H := Option.bind_eq_some_iff.mp H
    obtain ⟨t229, A70, H⟩ := H
    replace H : (some t229) = some r := H
    have A7 := Aside0.mk A70
    clear A70
    obtain rfl := Option.some.inj H
    go_enter Try.func75, Try.ntmps75
    go_wp2_with (first | ((with_reducible refine gate_dst (N := 8) rfl ?_); (try (refine gate_guard (by rfl) ?_; dsimp only)); refine Kd.R_lit (Kd.int .i64) _ 3 ?hg (N := 8) ?hd (xs := ([0, 1] : List Int)) (inner := [.int .i64 0, .int .i64 1]) (ok := fun _ => True) (okp := fun _ => True) ?hr ?hp (fun _ hk => hk) trivial (Below.refl _ _) (Nat.le_refl _) (by simp) ?_; (case hd => rfl); (case hg => rfl); (case hr => first | (go_simp; done) | (go_simp; rfl)); (case hp => exact (Reps.one (show Kd.M (Kd.int .i64) _ _ _ 0 [.int .i64 0] from rfl) (Reps.one (show Kd.M (Kd.int .i64) _ _ _ 1 [.int .i64 1] from rfl) (Reps.none _ _)))); intro v207 w8 ho9 hb hg_ hnew_; clear hg_ hnew_; (first | rw [← Ny206.out] at ho9 | (simp only [Int.reduceToNat] at ho9; rw [← Ny206.out] at ho9)); have n0_ := Aside0.mk (Kd.R_lower ho9 (below_size (bl_ HB.out))); have n1_ := Aside0.mk (below_step (bl_ HB.out) hb); clear HB; have HO208 := n0_; have HB := n1_; clear n0_ n1_ hb ho9; obtain ⟨Ao10, co10, eo10⟩ := Kd.R_slice HO208.out; subst eo10) | ((with_reducible refine gate_callee (f := 70) rfl ?_); refine goesL_ (some 9) rfl rfl Try.func70 (by kernel_rfl) rfl #[.agg #[.int .i64 1, .int .i64 1, .int .i64 2], .agg #[.int .i64 1, .int .i64 1], .slice Ao10 y206.length co10] rfl (by (try simp only [List.map_toArray, List.map_cons, List.map_nil]); first | done | rfl | (simp only [List.length_drop, List.length_take]; rfl)) ?_; (with_reducible refine (sling_Swing.calls 1 1 2 1 1 _ _ y206 t209 t212 _ ?side1 ?side2 A1.out).mono ?_); (case side1 => exact cr_ (Kd.R_reads' HO208.out).2.2); (case side2 => exact (Kd.R_reads' HO208.out).2.1); rintro e w11 ⟨v210, rfl, ho0, hb⟩; refine ⟨_, rfl, ?_⟩; have n0_ := Aside0.mk (Kd.R_below (by (with_reducible repeat (first | apply Kd.R_alloc | apply Kd.R_drewN | apply Kd.R_drew)); exact HO208.out) hb); have n1_ := Aside0.mk (Kd.R_lower ho0 (below_size (bl_ HB.out))); have n2_ := Aside0.mk (below_step (bl_ HB.out) hb); clear HO208 HB; have HO208 := n0_; have HO211 := n1_; have HB := n2_; clear n0_ n1_ n2_; (try clear hb); (try clear hb2); (try clear hk); (try clear hi); (try clear ho0)) | ((with_reducible refine gate_callee (f := 138) rfl ?_); refine goesL_ (some 13) rfl rfl Try.func138 (by kernel_rfl) rfl #[] rfl (by (try simp only [List.map_toArray, List.map_cons, List.map_nil]); first | done | rfl | (simp only [List.length_drop, List.length_take]; rfl)) ?_; (with_reducible refine (swashplatelaw07_Example.calls  t213 t214 t217 t220 t223 _ A2.out).mono ?_); rintro e w12 ⟨v215, v218, v221, rfl, ho0, ho1, ho2, hb⟩; refine ⟨_, rfl, ?_⟩; have n0_ := Aside0.mk (Kd.R_mono (Kd.R_told (Kd.R_told (Kd.R_old (by (with_reducible repeat (first | apply Kd.R_alloc | apply Kd.R_drewN | apply Kd.R_drew)); exact HO208.out) hb) (Kd.R_base ho0)) (Kd.R_base ho1)) (fun _ h_ => h_.1)); have n1_ := Aside0.mk (Kd.R_below (by (with_reducible repeat (first | apply Kd.R_alloc | apply Kd.R_drewN | apply Kd.R_drew)); exact HO211.out) hb); have n2_ := Aside0.mk (Kd.R_lower (Kd.R_new' (Kd.R_mono (ok' := fun k_ => some k_ ≠ (v218 : Value).ownBlock) ho0 (fun _ hk_ => hk_.2)) (Kd.R_lt (by (with_reducible repeat (first | apply Kd.R_alloc | apply Kd.R_drewN | apply Kd.R_drew)); exact HO208.out))) (below_size (bl_ HB.out))); have n3_ := Aside0.mk (Kd.R_lower (Kd.R_new' (Kd.R_mono (ok' := fun k_ => some k_ ≠ (v215 : Value).ownBlock) ho1 (fun _ hk_ => hk_.2)) (Kd.R_lt (by (with_reducible repeat (first | apply Kd.R_alloc | apply Kd.R_drewN | apply Kd.R_drew)); exact HO208.out))) (below_size (bl_ HB.out))); have n4_ := Aside0.mk (Kd.N_lower (Kd.N_mono (ok' := fun k_ => some k_ ≠ (v215 : Value).ownBlock ∧ some k_ ≠ (v218 : Value).ownBlock ∧ some k_ ≠ (.slice Ao10 y206.length co10 : Value).ownBlock ∧ some k_ ≠ (v210 : Value).ownBlock) ho2 (fun k_ hk_ => ⟨hk_.2.1, hk_.2.2, (Kd.fresh' (Kd.R_lt (by (with_reducible repeat (first | apply Kd.R_alloc | apply Kd.R_drewN | apply Kd.R_drew)); exact HO208.out)) k_ hk_.1), (Kd.fresh' (Kd.R_lt (by (with_reducible repeat (first | apply Kd.R_alloc | apply Kd.R_drewN | apply Kd.R_drew)); exact HO211.out)) k_ hk_.1)⟩)) (below_size (bl_ HB.out))); have n5_ := Aside0.mk (below_step (bl_ HB.out) hb); clear HO208 HO211 HB; have HO208 := n0_; have HO211 := n1_; have HO216 := n2_; have HO219 := n3_; have HO222 := n4_; have HB := n5_; clear n0_ n1_ n2_ n3_ n4_ n5_; (try clear hb); (try clear hb2); (try clear hk); (try clear hi); (try clear ho0); (try clear ho1); (try clear ho2); obtain ⟨Ao13, co13, eo13⟩ := Kd.R_slice HO216.out; subst eo13; obtain ⟨Ao14, co14, eo14⟩ := Kd.R_slice HO219.out; subst eo14; obtain ⟨Ao15, co15, eo15⟩ := Kd.N_slice HO222.out; subst eo15) | ((with_reducible refine gate_callee (f := 137) rfl ?_); refine goesL_ (some 15) rfl rfl Try.func137 (by kernel_rfl) rfl #[.agg #[.int .i64 t213, .slice Ao13 t214.length co13, .slice Ao14 t217.length co14, .slice Ao15 t220.length co15, .int .i64 t223], .agg #[.int .i64 0, .int .i64 10], .int .i64 200] rfl (by (try simp only [List.map_toArray, List.map_cons, List.map_nil]); first | done | rfl | (simp only [List.length_drop, List.length_take]; rfl)) ?_; (with_reducible refine (sling_Deepest.calls t213 _ _ t214 _ _ t217 _ _ t220 t223 0 10 200 t224 t225 _ ?side1 ?side2 ?side3 ?side4 ?side5 ?side6 A3.out).mono ?_); (case side1 => exact cr_ (Kd.R_reads' HO216.out).2.2); (case side2 => exact (Kd.R_reads' HO216.out).2.1); (case side3 => exact cr_ (Kd.R_reads' HO219.out).2.2); (case side4 => exact (Kd.R_reads' HO219.out).2.1); (case side5 => exact cr_ (Kd.N_reads' HO222.out).2.2); (case side6 => exact (Kd.N_reads' HO222.out).2.1); rintro e w16 ⟨rfl, hb⟩; refine ⟨_, rfl, ?_⟩; have n0_ := Aside0.mk (Kd.R_below (by (with_reducible repeat (first | apply Kd.R_alloc | apply Kd.R_drewN | apply Kd.R_drew)); exact HO208.out) hb); have n1_ := Aside0.mk (Kd.R_below (by (with_reducible repeat (first | apply Kd.R_alloc | apply Kd.R_drewN | apply Kd.R_drew)); exact HO211.out) hb); have n2_ := Aside0.mk (Kd.R_below (by (with_reducible repeat (first | apply Kd.R_alloc | apply Kd.R_drewN | apply Kd.R_drew)); exact HO216.out) hb); have n3_ := Aside0.mk (Kd.R_below (by (with_reducible repeat (first | apply Kd.R_alloc | apply Kd.R_drewN | apply Kd.R_drew)); exact HO219.out) hb); have n4_ := Aside0.mk (Kd.N_below (by (with_reducible repeat (first | apply Kd.N_alloc | apply Kd.N_drewN | apply Kd.N_drew)); exact HO222.out) hb); have n5_ := Aside0.mk (below_step (bl_ HB.out) hb); clear HO208 HO211 HO216 HO219 HO222 HB; have HO208 := n0_; have HO211 := n1_; have HO216 := n2_; have HO219 := n3_; have HO222 := n4_; have HB := n5_; clear n0_ n1_ n2_ n3_ n4_ n5_; (try clear hb); (try clear hb2); (try clear hk); (try clear hi)) | ((with_reducible refine gate_dst (N := 32) rfl ?_); (try (refine gate_guard (by rfl) ?_; dsimp only)); refine Kd.R_lit k28 _ 28 ?hg (N := 32) ?hd (xs := ([(⟨1, 1⟩ : S28), (⟨3, 2⟩ : S28)] : List (S28))) (inner := [.int .i64 1, .int .i64 1, .int .i64 3, .int .i64 2]) (ok := fun _ => True) (okp := fun _ => True) ?hr ?hp (fun _ hk => hk) trivial (Below.refl _ _) (Nat.le_refl _) (by simp) ?_; (case hd => rfl); (case hg => rfl); (case hr => first | (go_simp; done) | (go_simp; rfl)); (case hp => exact (Reps.c2 (show Kd.M k28 _ _ _ (⟨1, 1⟩ : S28) [.int .i64 1, .int .i64 1] from (k28_mkM _ _ _ (⟨1, 1⟩ : S28) )) (Reps.c2 (show Kd.M k28 _ _ _ (⟨3, 2⟩ : S28) [.int .i64 3, .int .i64 2] from (k28_mkM _ _ _ (⟨3, 2⟩ : S28) )) (Reps.none _ _)))); intro v227 w17 ho18 hb hg_ hnew_; clear hg_ hnew_; (first | rw [← Ny226.out] at ho18 | (simp only [Int.reduceToNat] at ho18; rw [← Ny226.out] at ho18)); have n0_ := Aside0.mk (Kd.R_below (by (with_reducible repeat (first | apply Kd.R_alloc | apply Kd.R_drewN | apply Kd.R_drew)); exact HO208.out) hb); have n1_ := Aside0.mk (Kd.R_elder' (by (with_reducible repeat (first | apply Kd.R_alloc | apply Kd.R_drewN | apply Kd.R_drew)); exact HO211.out) (Kd.R_base ho18) hb); have n2_ := Aside0.mk (Kd.R_below (by (with_reducible repeat (first | apply Kd.R_alloc | apply Kd.R_drewN | apply Kd.R_drew)); exact HO216.out) hb); have n3_ := Aside0.mk (Kd.R_below (by (with_reducible repeat (first | apply Kd.R_alloc | apply Kd.R_drewN | apply Kd.R_drew)); exact HO219.out) hb); have n4_ := Aside0.mk (Kd.N_elder' (by (with_reducible repeat (first | apply Kd.N_alloc | apply Kd.N_drewN | apply Kd.N_drew)); exact HO222.out) (Kd.R_base ho18) hb); have n5_ := Aside0.mk (Kd.R_lower (Kd.R_new' ho18 (Kd.R_lt (by (with_reducible repeat (first | apply Kd.R_alloc | apply Kd.R_drewN | apply Kd.R_drew)); exact HO211.out))) (below_size (bl_ HB.out))); have n6_ := Aside0.mk (below_step (bl_ HB.out) hb); clear HO208 HO211 HO216 HO219 HO222 HB; have HO208 := n0_; have HO211 := n1_; have HO216 := n2_; have HO219 := n3_; have HO222 := n4_; have HO228 := n5_; have HB := n6_; clear n0_ n1_ n2_ n3_ n4_ n5_ n6_ hb ho18; obtain ⟨Ao19, co19, eo19⟩ := Kd.R_slice HO211.out; subst eo19; obtain ⟨Ao20, co20, eo20⟩ := Kd.R_slice HO228.out; subst eo20) | (go_at_call 72; (with_reducible refine (swashplatelaw07_sameFractions.calls k _ _ t209 _ _ y226 t229 _ ?side1 ?side2 ?side3 ?side4 A7.out).mono ?_); (case side1 => exact cr_ (Kd.R_reads' HO211.out).2.2); (case side2 => exact (Kd.R_reads' HO211.out).2.1); (case side3 => exact cr_ (Kd.R_reads' HO228.out).2.2); (case side4 => exact (Kd.R_reads' HO228.out).2.1); rintro e w' ⟨rfl, ⟨nd, rfl⟩⟩))
    go_ret
    exact ⟨by first | rfl | (simp [errW_none, errW_some] <;> rfl) | (simp [*, errW_none, errW_some] <;> rfl), bl_ HB.out⟩
   ·
    rw [if_neg c6] at H
    have c6b0 : (t224 == 25) = false := beq_eq_false_iff_ne.mpr c6
    have c6b1 : (t224 != 25) = true := bne_iff_ne.mpr c6
    obtain rfl := Option.some.inj H
    go_enter Try.func75, Try.ntmps75
    go_wp2_with (first | ((with_reducible refine gate_dst (N := 8) rfl ?_); (try (refine gate_guard (by rfl) ?_; dsimp only)); refine Kd.R_lit (Kd.int .i64) _ 3 ?hg (N := 8) ?hd (xs := ([0, 1] : List Int)) (inner := [.int .i64 0, .int .i64 1]) (ok := fun _ => True) (okp := fun _ => True) ?hr ?hp (fun _ hk => hk) trivial (Below.refl _ _) (Nat.le_refl _) (by simp) ?_; (case hd => rfl); (case hg => rfl); (case hr => first | (go_simp; done) | (go_simp; rfl)); (case hp => exact (Reps.one (show Kd.M (Kd.int .i64) _ _ _ 0 [.int .i64 0] from rfl) (Reps.one (show Kd.M (Kd.int .i64) _ _ _ 1 [.int .i64 1] from rfl) (Reps.none _ _)))); intro v207 w21 ho22 hb hg_ hnew_; clear hg_ hnew_; (first | rw [← Ny206.out] at ho22 | (simp only [Int.reduceToNat] at ho22; rw [← Ny206.out] at ho22)); have n0_ := Aside0.mk (Kd.R_lower ho22 (below_size (bl_ HB.out))); have n1_ := Aside0.mk (below_step (bl_ HB.out) hb); clear HB; have HO208 := n0_; have HB := n1_; clear n0_ n1_ hb ho22; obtain ⟨Ao23, co23, eo23⟩ := Kd.R_slice HO208.out; subst eo23) | ((with_reducible refine gate_callee (f := 70) rfl ?_); refine goesL_ (some 9) rfl rfl Try.func70 (by kernel_rfl) rfl #[.agg #[.int .i64 1, .int .i64 1, .int .i64 2], .agg #[.int .i64 1, .int .i64 1], .slice Ao23 y206.length co23] rfl (by (try simp only [List.map_toArray, List.map_cons, List.map_nil]); first | done | rfl | (simp only [List.length_drop, List.length_take]; rfl)) ?_; (with_reducible refine (sling_Swing.calls 1 1 2 1 1 _ _ y206 t209 t212 _ ?side1 ?side2 A1.out).mono ?_); (case side1 => exact cr_ (Kd.R_reads' HO208.out).2.2); (case side2 => exact (Kd.R_reads' HO208.out).2.1); rintro e w24 ⟨v210, rfl, ho0, hb⟩; refine ⟨_, rfl, ?_⟩; have n0_ := Aside0.mk (Kd.R_below (by (with_reducible repeat (first | apply Kd.R_alloc | apply Kd.R_drewN | apply Kd.R_drew)); exact HO208.out) hb); have n1_ := Aside0.mk (Kd.R_lower ho0 (below_size (bl_ HB.out))); have n2_ := Aside0.mk (below_step (bl_ HB.out) hb); clear HO208 HB; have HO208 := n0_; have HO211 := n1_; have HB := n2_; clear n0_ n1_ n2_; (try clear hb); (try clear hb2); (try clear hk); (try clear hi); (try clear ho0)) | ((with_reducible refine gate_callee (f := 138) rfl ?_); refine goesL_ (some 13) rfl rfl Try.func138 (by kernel_rfl) rfl #[] rfl (by (try simp only [List.map_toArray, List.map_cons, List.map_nil]); first | done | rfl | (simp only [List.length_drop, List.length_take]; rfl)) ?_; (with_reducible refine (swashplatelaw07_Example.calls  t213 t214 t217 t220 t223 _ A2.out).mono ?_); rintro e w25 ⟨v215, v218, v221, rfl, ho0, ho1, ho2, hb⟩; refine ⟨_, rfl, ?_⟩; have n0_ := Aside0.mk (Kd.R_mono (Kd.R_told (Kd.R_told (Kd.R_old (by (with_reducible repeat (first | apply Kd.R_alloc | apply Kd.R_drewN | apply Kd.R_drew)); exact HO208.out) hb) (Kd.R_base ho0)) (Kd.R_base ho1)) (fun _ h_ => h_.1)); have n1_ := Aside0.mk (Kd.R_below (by (with_reducible repeat (first | apply Kd.R_alloc | apply Kd.R_drewN | apply Kd.R_drew)); exact HO211.out) hb); have n2_ := Aside0.mk (Kd.R_lower (Kd.R_new' (Kd.R_mono (ok' := fun k_ => some k_ ≠ (v218 : Value).ownBlock) ho0 (fun _ hk_ => hk_.2)) (Kd.R_lt (by (with_reducible repeat (first | apply Kd.R_alloc | apply Kd.R_drewN | apply Kd.R_drew)); exact HO208.out))) (below_size (bl_ HB.out))); have n3_ := Aside0.mk (Kd.R_lower (Kd.R_new' (Kd.R_mono (ok' := fun k_ => some k_ ≠ (v215 : Value).ownBlock) ho1 (fun _ hk_ => hk_.2)) (Kd.R_lt (by (with_reducible repeat (first | apply Kd.R_alloc | apply Kd.R_drewN | apply Kd.R_drew)); exact HO208.out))) (below_size (bl_ HB.out))); have n4_ := Aside0.mk (Kd.N_lower (Kd.N_mono (ok' := fun k_ => some k_ ≠ (v215 : Value).ownBlock ∧ some k_ ≠ (v218 : Value).ownBlock ∧ some k_ ≠ (.slice Ao23 y206.length co23 : Value).ownBlock ∧ some k_ ≠ (v210 : Value).ownBlock) ho2 (fun k_ hk_ => ⟨hk_.2.1, hk_.2.2, (Kd.fresh' (Kd.R_lt (by (with_reducible repeat (first | apply Kd.R_alloc | apply Kd.R_drewN | apply Kd.R_drew)); exact HO208.out)) k_ hk_.1), (Kd.fresh' (Kd.R_lt (by (with_reducible repeat (first | apply Kd.R_alloc | apply Kd.R_drewN | apply Kd.R_drew)); exact HO211.out)) k_ hk_.1)⟩)) (below_size (bl_ HB.out))); have n5_ := Aside0.mk (below_step (bl_ HB.out) hb); clear HO208 HO211 HB; have HO208 := n0_; have HO211 := n1_; have HO216 := n2_; have HO219 := n3_; have HO222 := n4_; have HB := n5_; clear n0_ n1_ n2_ n3_ n4_ n5_; (try clear hb); (try clear hb2); (try clear hk); (try clear hi); (try clear ho0); (try clear ho1); (try clear ho2); obtain ⟨Ao26, co26, eo26⟩ := Kd.R_slice HO216.out; subst eo26; obtain ⟨Ao27, co27, eo27⟩ := Kd.R_slice HO219.out; subst eo27; obtain ⟨Ao28, co28, eo28⟩ := Kd.N_slice HO222.out; subst eo28) | ((with_reducible refine gate_callee (f := 137) rfl ?_); refine goesL_ (some 15) rfl rfl Try.func137 (by kernel_rfl) rfl #[.agg #[.int .i64 t213, .slice Ao26 t214.length co26, .slice Ao27 t217.length co27, .slice Ao28 t220.length co28, .int .i64 t223], .agg #[.int .i64 0, .int .i64 10], .int .i64 200] rfl (by (try simp only [List.map_toArray, List.map_cons, List.map_nil]); first | done | rfl | (simp only [List.length_drop, List.length_take]; rfl)) ?_; (with_reducible refine (sling_Deepest.calls t213 _ _ t214 _ _ t217 _ _ t220 t223 0 10 200 t224 t225 _ ?side1 ?side2 ?side3 ?side4 ?side5 ?side6 A3.out).mono ?_); (case side1 => exact cr_ (Kd.R_reads' HO216.out).2.2); (case side2 => exact (Kd.R_reads' HO216.out).2.1); (case side3 => exact cr_ (Kd.R_reads' HO219.out).2.2); (case side4 => exact (Kd.R_reads' HO219.out).2.1); (case side5 => exact cr_ (Kd.N_reads' HO222.out).2.2); (case side6 => exact (Kd.N_reads' HO222.out).2.1); rintro e w29 ⟨rfl, hb⟩; refine ⟨_, rfl, ?_⟩; have n0_ := Aside0.mk (Kd.R_below (by (with_reducible repeat (first | apply Kd.R_alloc | apply Kd.R_drewN | apply Kd.R_drew)); exact HO208.out) hb); have n1_ := Aside0.mk (Kd.R_below (by (with_reducible repeat (first | apply Kd.R_alloc | apply Kd.R_drewN | apply Kd.R_drew)); exact HO211.out) hb); have n2_ := Aside0.mk (Kd.R_below (by (with_reducible repeat (first | apply Kd.R_alloc | apply Kd.R_drewN | apply Kd.R_drew)); exact HO216.out) hb); have n3_ := Aside0.mk (Kd.R_below (by (with_reducible repeat (first | apply Kd.R_alloc | apply Kd.R_drewN | apply Kd.R_drew)); exact HO219.out) hb); have n4_ := Aside0.mk (Kd.N_below (by (with_reducible repeat (first | apply Kd.N_alloc | apply Kd.N_drewN | apply Kd.N_drew)); exact HO222.out) hb); have n5_ := Aside0.mk (below_step (bl_ HB.out) hb); clear HO208 HO211 HO216 HO219 HO222 HB; have HO208 := n0_; have HO211 := n1_; have HO216 := n2_; have HO219 := n3_; have HO222 := n4_; have HB := n5_; clear n0_ n1_ n2_ n3_ n4_ n5_; (try clear hb); (try clear hb2); (try clear hk); (try clear hi)))
    go_ret
    exact ⟨by first | rfl | (simp [errW_none, errW_some] <;> rfl) | (simp [*, errW_none, errW_some] <;> rfl), bl_ HB.out⟩
  ·
   rw [if_neg c5] at H
   have c5b0 : (t225 == 0) = false := beq_eq_false_iff_ne.mpr c5
   have c5b1 : (t225 != 0) = true := bne_iff_ne.mpr c5
   obtain rfl := Option.some.inj H
   go_enter Try.func75, Try.ntmps75
   go_wp2_with (first | ((with_reducible refine gate_dst (N := 8) rfl ?_); (try (refine gate_guard (by rfl) ?_; dsimp only)); refine Kd.R_lit (Kd.int .i64) _ 3 ?hg (N := 8) ?hd (xs := ([0, 1] : List Int)) (inner := [.int .i64 0, .int .i64 1]) (ok := fun _ => True) (okp := fun _ => True) ?hr ?hp (fun _ hk => hk) trivial (Below.refl _ _) (Nat.le_refl _) (by simp) ?_; (case hd => rfl); (case hg => rfl); (case hr => first | (go_simp; done) | (go_simp; rfl)); (case hp => exact (Reps.one (show Kd.M (Kd.int .i64) _ _ _ 0 [.int .i64 0] from rfl) (Reps.one (show Kd.M (Kd.int .i64) _ _ _ 1 [.int .i64 1] from rfl) (Reps.none _ _)))); intro v207 w30 ho31 hb hg_ hnew_; clear hg_ hnew_; (first | rw [← Ny206.out] at ho31 | (simp only [Int.reduceToNat] at ho31; rw [← Ny206.out] at ho31)); have n0_ := Aside0.mk (Kd.R_lower ho31 (below_size (bl_ HB.out))); have n1_ := Aside0.mk (below_step (bl_ HB.out) hb); clear HB; have HO208 := n0_; have HB := n1_; clear n0_ n1_ hb ho31; obtain ⟨Ao32, co32, eo32⟩ := Kd.R_slice HO208.out; subst eo32) | ((with_reducible refine gate_callee (f := 70) rfl ?_); refine goesL_ (some 9) rfl rfl Try.func70 (by kernel_rfl) rfl #[.agg #[.int .i64 1, .int .i64 1, .int .i64 2], .agg #[.int .i64 1, .int .i64 1], .slice Ao32 y206.length co32] rfl (by (try simp only [List.map_toArray, List.map_cons, List.map_nil]); first | done | rfl | (simp only [List.length_drop, List.length_take]; rfl)) ?_; (with_reducible refine (sling_Swing.calls 1 1 2 1 1 _ _ y206 t209 t212 _ ?side1 ?side2 A1.out).mono ?_); (case side1 => exact cr_ (Kd.R_reads' HO208.out).2.2); (case side2 => exact (Kd.R_reads' HO208.out).2.1); rintro e w33 ⟨v210, rfl, ho0, hb⟩; refine ⟨_, rfl, ?_⟩; have n0_ := Aside0.mk (Kd.R_below (by (with_reducible repeat (first | apply Kd.R_alloc | apply Kd.R_drewN | apply Kd.R_drew)); exact HO208.out) hb); have n1_ := Aside0.mk (Kd.R_lower ho0 (below_size (bl_ HB.out))); have n2_ := Aside0.mk (below_step (bl_ HB.out) hb); clear HO208 HB; have HO208 := n0_; have HO211 := n1_; have HB := n2_; clear n0_ n1_ n2_; (try clear hb); (try clear hb2); (try clear hk); (try clear hi); (try clear ho0)) | ((with_reducible refine gate_callee (f := 138) rfl ?_); refine goesL_ (some 13) rfl rfl Try.func138 (by kernel_rfl) rfl #[] rfl (by (try simp only [List.map_toArray, List.map_cons, List.map_nil]); first | done | rfl | (simp only [List.length_drop, List.length_take]; rfl)) ?_; (with_reducible refine (swashplatelaw07_Example.calls  t213 t214 t217 t220 t223 _ A2.out).mono ?_); rintro e w34 ⟨v215, v218, v221, rfl, ho0, ho1, ho2, hb⟩; refine ⟨_, rfl, ?_⟩; have n0_ := Aside0.mk (Kd.R_mono (Kd.R_told (Kd.R_told (Kd.R_old (by (with_reducible repeat (first | apply Kd.R_alloc | apply Kd.R_drewN | apply Kd.R_drew)); exact HO208.out) hb) (Kd.R_base ho0)) (Kd.R_base ho1)) (fun _ h_ => h_.1)); have n1_ := Aside0.mk (Kd.R_below (by (with_reducible repeat (first | apply Kd.R_alloc | apply Kd.R_drewN | apply Kd.R_drew)); exact HO211.out) hb); have n2_ := Aside0.mk (Kd.R_lower (Kd.R_new' (Kd.R_mono (ok' := fun k_ => some k_ ≠ (v218 : Value).ownBlock) ho0 (fun _ hk_ => hk_.2)) (Kd.R_lt (by (with_reducible repeat (first | apply Kd.R_alloc | apply Kd.R_drewN | apply Kd.R_drew)); exact HO208.out))) (below_size (bl_ HB.out))); have n3_ := Aside0.mk (Kd.R_lower (Kd.R_new' (Kd.R_mono (ok' := fun k_ => some k_ ≠ (v215 : Value).ownBlock) ho1 (fun _ hk_ => hk_.2)) (Kd.R_lt (by (with_reducible repeat (first | apply Kd.R_alloc | apply Kd.R_drewN | apply Kd.R_drew)); exact HO208.out))) (below_size (bl_ HB.out))); have n4_ := Aside0.mk (Kd.N_lower (Kd.N_mono (ok' := fun k_ => some k_ ≠ (v215 : Value).ownBlock ∧ some k_ ≠ (v218 : Value).ownBlock ∧ some k_ ≠ (.slice Ao32 y206.length co32 : Value).ownBlock ∧ some k_ ≠ (v210 : Value).ownBlock) ho2 (fun k_ hk_ => ⟨hk_.2.1, hk_.2.2, (Kd.fresh' (Kd.R_lt (by (with_reducible repeat (first | apply Kd.R_alloc | apply Kd.R_drewN | apply Kd.R_drew)); exact HO208.out)) k_ hk_.1), (Kd.fresh' (Kd.R_lt (by (with_reducible repeat (first | apply Kd.R_alloc | apply Kd.R_drewN | apply Kd.R_drew)); exact HO211.out)) k_ hk_.1)⟩)) (below_size (bl_ HB.out))); have n5_ := Aside0.mk (below_step (bl_ HB.out) hb); clear HO208 HO211 HB; have HO208 := n0_; have HO211 := n1_; have HO216 := n2_; have HO219 := n3_; have HO222 := n4_; have HB := n5_; clear n0_ n1_ n2_ n3_ n4_ n5_; (try clear hb); (try clear hb2); (try clear hk); (try clear hi); (try clear ho0); (try clear ho1); (try clear ho2); obtain ⟨Ao35, co35, eo35⟩ := Kd.R_slice HO216.out; subst eo35; obtain ⟨Ao36, co36, eo36⟩ := Kd.R_slice HO219.out; subst eo36; obtain ⟨Ao37, co37, eo37⟩ := Kd.N_slice HO222.out; subst eo37) | ((with_reducible refine gate_callee (f := 137) rfl ?_); refine goesL_ (some 15) rfl rfl Try.func137 (by kernel_rfl) rfl #[.agg #[.int .i64 t213, .slice Ao35 t214.length co35, .slice Ao36 t217.length co36, .slice Ao37 t220.length co37, .int .i64 t223], .agg #[.int .i64 0, .int .i64 10], .int .i64 200] rfl (by (try simp only [List.map_toArray, List.map_cons, List.map_nil]); first | done | rfl | (simp only [List.length_drop, List.length_take]; rfl)) ?_; (with_reducible refine (sling_Deepest.calls t213 _ _ t214 _ _ t217 _ _ t220 t223 0 10 200 t224 t225 _ ?side1 ?side2 ?side3 ?side4 ?side5 ?side6 A3.out).mono ?_); (case side1 => exact cr_ (Kd.R_reads' HO216.out).2.2); (case side2 => exact (Kd.R_reads' HO216.out).2.1); (case side3 => exact cr_ (Kd.R_reads' HO219.out).2.2); (case side4 => exact (Kd.R_reads' HO219.out).2.1); (case side5 => exact cr_ (Kd.N_reads' HO222.out).2.2); (case side6 => exact (Kd.N_reads' HO222.out).2.1); rintro e w38 ⟨rfl, hb⟩; refine ⟨_, rfl, ?_⟩; have n0_ := Aside0.mk (Kd.R_below (by (with_reducible repeat (first | apply Kd.R_alloc | apply Kd.R_drewN | apply Kd.R_drew)); exact HO208.out) hb); have n1_ := Aside0.mk (Kd.R_below (by (with_reducible repeat (first | apply Kd.R_alloc | apply Kd.R_drewN | apply Kd.R_drew)); exact HO211.out) hb); have n2_ := Aside0.mk (Kd.R_below (by (with_reducible repeat (first | apply Kd.R_alloc | apply Kd.R_drewN | apply Kd.R_drew)); exact HO216.out) hb); have n3_ := Aside0.mk (Kd.R_below (by (with_reducible repeat (first | apply Kd.R_alloc | apply Kd.R_drewN | apply Kd.R_drew)); exact HO219.out) hb); have n4_ := Aside0.mk (Kd.N_below (by (with_reducible repeat (first | apply Kd.N_alloc | apply Kd.N_drewN | apply Kd.N_drew)); exact HO222.out) hb); have n5_ := Aside0.mk (below_step (bl_ HB.out) hb); clear HO208 HO211 HO216 HO219 HO222 HB; have HO208 := n0_; have HO211 := n1_; have HO216 := n2_; have HO219 := n3_; have HO222 := n4_; have HB := n5_; clear n0_ n1_ n2_ n3_ n4_ n5_; (try clear hb); (try clear hb2); (try clear hk); (try clear hi)))
   go_ret
   exact ⟨by first | rfl | (simp [errW_none, errW_some] <;> rfl) | (simp [*, errW_none, errW_some] <;> rfl), bl_ HB.out⟩
 ·
  rw [if_neg c4] at H
  have c4b0 : (t212 == 0) = false := beq_eq_false_iff_ne.mpr c4
  have c4b1 : (t212 != 0) = true := bne_iff_ne.mpr c4
  obtain rfl := Option.some.inj H
  go_enter Try.func75, Try.ntmps75
  go_wp2_with (first | ((with_reducible refine gate_dst (N := 8) rfl ?_); (try (refine gate_guard (by rfl) ?_; dsimp only)); refine Kd.R_lit (Kd.int .i64) _ 3 ?hg (N := 8) ?hd (xs := ([0, 1] : List Int)) (inner := [.int .i64 0, .int .i64 1]) (ok := fun _ => True) (okp := fun _ => True) ?hr ?hp (fun _ hk => hk) trivial (Below.refl _ _) (Nat.le_refl _) (by simp) ?_; (case hd => rfl); (case hg => rfl); (case hr => first | (go_simp; done) | (go_simp; rfl)); (case hp => exact (Reps.one (show Kd.M (Kd.int .i64) _ _ _ 0 [.int .i64 0] from rfl) (Reps.one (show Kd.M (Kd.int .i64) _ _ _ 1 [.int .i64 1] from rfl) (Reps.none _ _)))); intro v207 w39 ho40 hb hg_ hnew_; clear hg_ hnew_; (first | rw [← Ny206.out] at ho40 | (simp only [Int.reduceToNat] at ho40; rw [← Ny206.out] at ho40)); have n0_ := Aside0.mk (Kd.R_lower ho40 (below_size (bl_ HB.out))); have n1_ := Aside0.mk (below_step (bl_ HB.out) hb); clear HB; have HO208 := n0_; have HB := n1_; clear n0_ n1_ hb ho40; obtain ⟨Ao41, co41, eo41⟩ := Kd.R_slice HO208.out; subst eo41) | ((with_reducible refine gate_callee (f := 70) rfl ?_); refine goesL_ (some 9) rfl rfl Try.func70 (by kernel_rfl) rfl #[.agg #[.int .i64 1, .int .i64 1, .int .i64 2], .agg #[.int .i64 1, .int .i64 1], .slice Ao41 y206.length co41] rfl (by (try simp only [List.map_toArray, List.map_cons, List.map_nil]); first | done | rfl | (simp only [List.length_drop, List.length_take]; rfl)) ?_; (with_reducible refine (sling_Swing.calls 1 1 2 1 1 _ _ y206 t209 t212 _ ?side1 ?side2 A1.out).mono ?_); (case side1 => exact cr_ (Kd.R_reads' HO208.out).2.2); (case side2 => exact (Kd.R_reads' HO208.out).2.1); rintro e w42 ⟨v210, rfl, ho0, hb⟩; refine ⟨_, rfl, ?_⟩; have n0_ := Aside0.mk (Kd.R_below (by (with_reducible repeat (first | apply Kd.R_alloc | apply Kd.R_drewN | apply Kd.R_drew)); exact HO208.out) hb); have n1_ := Aside0.mk (Kd.R_lower ho0 (below_size (bl_ HB.out))); have n2_ := Aside0.mk (below_step (bl_ HB.out) hb); clear HO208 HB; have HO208 := n0_; have HO211 := n1_; have HB := n2_; clear n0_ n1_ n2_; (try clear hb); (try clear hb2); (try clear hk); (try clear hi); (try clear ho0)) | ((with_reducible refine gate_callee (f := 138) rfl ?_); refine goesL_ (some 13) rfl rfl Try.func138 (by kernel_rfl) rfl #[] rfl (by (try simp only [List.map_toArray, List.map_cons, List.map_nil]); first | done | rfl | (simp only [List.length_drop, List.length_take]; rfl)) ?_; (with_reducible refine (swashplatelaw07_Example.calls  t213 t214 t217 t220 t223 _ A2.out).mono ?_); rintro e w43 ⟨v215, v218, v221, rfl, ho0, ho1, ho2, hb⟩; refine ⟨_, rfl, ?_⟩; have n0_ := Aside0.mk (Kd.R_mono (Kd.R_told (Kd.R_told (Kd.R_old (by (with_reducible repeat (first | apply Kd.R_alloc | apply Kd.R_drewN | apply Kd.R_drew)); exact HO208.out) hb) (Kd.R_base ho0)) (Kd.R_base ho1)) (fun _ h_ => h_.1)); have n1_ := Aside0.mk (Kd.R_below (by (with_reducible repeat (first | apply Kd.R_alloc | apply Kd.R_drewN | apply Kd.R_drew)); exact HO211.out) hb); have n2_ := Aside0.mk (Kd.R_lower (Kd.R_new' (Kd.R_mono (ok' := fun k_ => some k_ ≠ (v218 : Value).ownBlock) ho0 (fun _ hk_ => hk_.2)) (Kd.R_lt (by (with_reducible repeat (first | apply Kd.R_alloc | apply Kd.R_drewN | apply Kd.R_drew)); exact HO208.out))) (below_size (bl_ HB.out))); have n3_ := Aside0.mk (Kd.R_lower (Kd.R_new' (Kd.R_mono (ok' := fun k_ => some k_ ≠ (v215 : Value).ownBlock) ho1 (fun _ hk_ => hk_.2)) (Kd.R_lt (by (with_reducible repeat (first | apply Kd.R_alloc | apply Kd.R_drewN | apply Kd.R_drew)); exact HO208.out))) (below_size (bl_ HB.out))); have n4_ := Aside0.mk (Kd.N_lower (Kd.N_mono (ok' := fun k_ => some k_ ≠ (v215 : Value).ownBlock ∧ some k_ ≠ (v218 : Value).ownBlock ∧ some k_ ≠ (.slice Ao41 y206.length co41 : Value).ownBlock ∧ some k_ ≠ (v210 : Value).ownBlock) ho2 (fun k_ hk_ => ⟨hk_.2.1, hk_.2.2, (Kd.fresh' (Kd.R_lt (by (with_reducible repeat (first | apply Kd.R_alloc | apply Kd.R_drewN | apply Kd.R_drew)); exact HO208.out)) k_ hk_.1), (Kd.fresh' (Kd.R_lt (by (with_reducible repeat (first | apply Kd.R_alloc | apply Kd.R_drewN | apply Kd.R_drew)); exact HO211.out)) k_ hk_.1)⟩)) (below_size (bl_ HB.out))); have n5_ := Aside0.mk (below_step (bl_ HB.out) hb); clear HO208 HO211 HB; have HO208 := n0_; have HO211 := n1_; have HO216 := n2_; have HO219 := n3_; have HO222 := n4_; have HB := n5_; clear n0_ n1_ n2_ n3_ n4_ n5_; (try clear hb); (try clear hb2); (try clear hk); (try clear hi); (try clear ho0); (try clear ho1); (try clear ho2); obtain ⟨Ao44, co44, eo44⟩ := Kd.R_slice HO216.out; subst eo44; obtain ⟨Ao45, co45, eo45⟩ := Kd.R_slice HO219.out; subst eo45; obtain ⟨Ao46, co46, eo46⟩ := Kd.N_slice HO222.out; subst eo46) | ((with_reducible refine gate_callee (f := 137) rfl ?_); refine goesL_ (some 15) rfl rfl Try.func137 (by kernel_rfl) rfl #[.agg #[.int .i64 t213, .slice Ao44 t214.length co44, .slice Ao45 t217.length co45, .slice Ao46 t220.length co46, .int .i64 t223], .agg #[.int .i64 0, .int .i64 10], .int .i64 200] rfl (by (try simp only [List.map_toArray, List.map_cons, List.map_nil]); first | done | rfl | (simp only [List.length_drop, List.length_take]; rfl)) ?_; (with_reducible refine (sling_Deepest.calls t213 _ _ t214 _ _ t217 _ _ t220 t223 0 10 200 t224 t225 _ ?side1 ?side2 ?side3 ?side4 ?side5 ?side6 A3.out).mono ?_); (case side1 => exact cr_ (Kd.R_reads' HO216.out).2.2); (case side2 => exact (Kd.R_reads' HO216.out).2.1); (case side3 => exact cr_ (Kd.R_reads' HO219.out).2.2); (case side4 => exact (Kd.R_reads' HO219.out).2.1); (case side5 => exact cr_ (Kd.N_reads' HO222.out).2.2); (case side6 => exact (Kd.N_reads' HO222.out).2.1); rintro e w47 ⟨rfl, hb⟩; refine ⟨_, rfl, ?_⟩; have n0_ := Aside0.mk (Kd.R_below (by (with_reducible repeat (first | apply Kd.R_alloc | apply Kd.R_drewN | apply Kd.R_drew)); exact HO208.out) hb); have n1_ := Aside0.mk (Kd.R_below (by (with_reducible repeat (first | apply Kd.R_alloc | apply Kd.R_drewN | apply Kd.R_drew)); exact HO211.out) hb); have n2_ := Aside0.mk (Kd.R_below (by (with_reducible repeat (first | apply Kd.R_alloc | apply Kd.R_drewN | apply Kd.R_drew)); exact HO216.out) hb); have n3_ := Aside0.mk (Kd.R_below (by (with_reducible repeat (first | apply Kd.R_alloc | apply Kd.R_drewN | apply Kd.R_drew)); exact HO219.out) hb); have n4_ := Aside0.mk (Kd.N_below (by (with_reducible repeat (first | apply Kd.N_alloc | apply Kd.N_drewN | apply Kd.N_drew)); exact HO222.out) hb); have n5_ := Aside0.mk (below_step (bl_ HB.out) hb); clear HO208 HO211 HO216 HO219 HO222 HB; have HO208 := n0_; have HO211 := n1_; have HO216 := n2_; have HO219 := n3_; have HO222 := n4_; have HB := n5_; clear n0_ n1_ n2_ n3_ n4_ n5_; (try clear hb); (try clear hb2); (try clear hk); (try clear hi)))
  go_ret
  exact ⟨by first | rfl | (simp [errW_none, errW_some] <;> rfl) | (simp [*, errW_none, errW_some] <;> rfl), bl_ HB.out⟩
end Go.Proofs.Yteodlmgmmpkpoaa.PS
end
section
namespace Go.Proofs.Yteodlmgmmpkpoaa.PS
open Go.RowKit Go.Proofs.YteodlmgmmpkpoaaW.PrintWords Go.Proofs.YteodlmgmmpkpoaaW.PrintLast Go.Proofs.YteodlmgmmpkpoaaW.PrintMore
attribute [local go_sem] max2_int min2_int max_two min_two max_three min_three max_four min_four   -- for this text's walks alone
set_option linter.unusedVariables false
set_option linter.unusedSimpArgs false
def swashplatelaw07_SlingSwings.j0 : Nat → Bool → Int → Int → Int → Int → Int → List Int → Int → Int → Int → Option (Bool)
 | 0, _, _, _, _, _, _, _, _, _, _ => none
 | k + 1, x42, x231000, x231001, x231002, x232000, x232001, x232002, x232003, x232004, x232005 => if x42 = true then (some false) else ((sling_Calm.f x231000 x231001 x231002 x232000 x232001 x232003 x232004 x232005).bind fun bt243 => ((swashplateref07_Calm.f k x231000 x231001 x231002 x232000 x232001 x232003 x232004 x232005).bind fun bt245 => (if bt243.1 = bt245.1 then (if bt243.2 = bt245.2 then ((swashplatelaw07_works.f k).bind fun t247 => (some t247)) else (some false)) else (some false))))
def swashplatelaw07_SlingSwings.f (k : Nat) (a0_0 : Int) (a0_1 : Int) (a0_2 : Int) (a1_0 : Int) (a1_1 : Int) (l1_2 : List Int) (a1_3 : Int) (a1_4 : Int) (a1_5 : Int) : Option (Bool) := (sling_Check.f a0_0 a0_1 a0_2).bind fun t232 => ((swashplateref07_Check.f a0_0 a0_1 a0_2).bind fun t233 => (if t232 = t233 then ((sling_Swing.f a0_0 a0_1 a0_2 a1_0 a1_1 l1_2).bind fun bt234 => ((swashplateref07_Swing.f k a0_0 a0_1 a0_2 a1_0 a1_1 l1_2).bind fun bt238 => (if bt234.2 = bt238.2 then ((swashplatelaw07_sameFractions.f k bt234.1 bt238.1).bind fun t242 => (swashplatelaw07_SlingSwings.j0 k (!t242) a0_0 a0_1 a0_2 a1_0 a1_1 l1_2 a1_3 a1_4 a1_5)) else (swashplatelaw07_SlingSwings.j0 k true a0_0 a0_1 a0_2 a1_0 a1_1 l1_2 a1_3 a1_4 a1_5)))) else (some false)))
set_option maxHeartbeats 8000000 in
set_option maxRecDepth 100000 in
theorem swashplatelaw07_SlingSwings.calls (k : Nat) (a0_0 : Int) (a0_1 : Int) (a0_2 : Int) (a1_0 : Int) (a1_1 : Int) (A1_2 : Option Addr) (c1_2 : Nat) (l1_2 : List Int) (a1_3 : Int) (a1_4 : Int) (a1_5 : Int) (r : Bool) (w : World) (hr1_2 : Kd.C (Kd.int .i64) w A1_2 l1_2.length l1_2) (hc1_2 : l1_2.length ≤ c1_2) (h : swashplatelaw07_SlingSwings.f k a0_0 a0_1 a0_2 a1_0 a1_1 l1_2 a1_3 a1_4 a1_5 = some r) :
  Calls Try.prog 16 #[.agg #[.int .i64 a0_0, .int .i64 a0_1, .int .i64 a0_2], .agg #[.int .i64 a1_0, .int .i64 a1_1, .slice A1_2 l1_2.length c1_2, .int .i64 a1_3, .int .i64 a1_4, .int .i64 a1_5]] w fun e w' => e = .returned (.bool r) ∧ Below w.heap.size w w' := by
 have hu105 := Try.underlying105
 have hu107 := Try.underlying107
 have hu28 := Try.underlying28
 have hu27 := Try.underlying27
 have HR1_2 := Aside0.mk hr1_2
 have HC1_2 := Aside0.mk hc1_2
 clear hr1_2 hc1_2
 have HB := Aside0.mk (Below.refl w.heap.size w)
 have H : ((sling_Check.f a0_0 a0_1 a0_2).bind fun t232 => ((swashplateref07_Check.f a0_0 a0_1 a0_2).bind fun t233 => (if t232 = t233 then ((sling_Swing.f a0_0 a0_1 a0_2 a1_0 a1_1 l1_2).bind fun bt234 => ((swashplateref07_Swing.f k a0_0 a0_1 a0_2 a1_0 a1_1 l1_2).bind fun bt238 => (if bt234.2 = bt238.2 then ((swashplatelaw07_sameFractions.f k bt234.1 bt238.1).bind fun t242 => (swashplatelaw07_SlingSwings.j0 k (!t242) a0_0 a0_1 a0_2 a1_0 a1_1 l1_2 a1_3 a1_4 a1_5)) else (swashplatelaw07_SlingSwings.j0 k true a0_0 a0_1 a0_2 a1_0 a1_1 l1_2 a1_3 a1_4 a1_5)))) else (some false)))) = some r := h
 clear h
 replace H := Option.bind_eq_some_iff.mp H
 obtain ⟨t232, A30, H⟩ := H
 replace H : ((swashplateref07_Check.f a0_0 a0_1 a0_2).bind fun t233 => (if t232 = t233 then ((sling_Swing.f a0_0 a0_1 a0_2 a1_0 a1_1 l1_2).bind fun bt234 => ((swashplateref07_Swing.f k a0_0 a0_1 a0_2 a1_0 a1_1 l1_2).bind fun bt238 => (if bt234.2 = bt238.2 then ((swashplatelaw07_sameFractions.f k bt234.1 bt238.1).bind fun t242 => (swashplatelaw07_SlingSwings.j0 k (!t242) a0_0 a0_1 a0_2 a1_0 a1_1 l1_2 a1_3 a1_4 a1_5)) else (swashplatelaw07_SlingSwings.j0 k true a0_0 a0_1 a0_2 a1_0 a1_1 l1_2 a1_3 a1_4 a1_5)))) else (some false))) = some r := H
 have A3 := Aside0.mk A30
 clear A30
 replace H := Option.bind_eq_some_iff.mp H
 obtain ⟨t233, A40, H⟩ := H
 replace H : (if t232 = t233 then ((sling_Swing.f a0_0 a0_1 a0_2 a1_0 a1_1 l1_2).bind fun bt234 => ((swashplateref07_Swing.f k a0_0 a0_1 a0_2 a1_0 a1_1 l1_2).bind fun bt238 => (if bt234.2 = bt238.2 then ((swashplatelaw07_sameFractions.f k bt234.1 bt238.1).bind fun t242 => (swashplatelaw07_SlingSwings.j0 k (!t242) a0_0 a0_1 a0_2 a1_0 a1_1 l1_2 a1_3 a1_4 a1_5)) else (swashplatelaw07_SlingSwings.j0 k true a0_0 a0_1 a0_2 a1_0 a1_1 l1_2 a1_3 a1_4 a1_5)))) else (some false)) = some r := H
 have A4 := Aside0.mk A40
 clear A40
 by_cases c5 : t232 = t233
 ·
  rw [if_pos c5] at H
  have c5b0 : (t232 == t233) = true := beq_iff_eq.mpr c5
  have c5b1 : (t232 != t233) = false := bne_eq_false_iff_eq.mpr c5
  clear c5
  replace H := Option.bind_eq_some_iff.mp H
  obtain ⟨⟨t234, t237⟩, A60, H⟩ := H
  replace H : ((swashplateref07_Swing.f k a0_0 a0_1 a0_2 a1_0 a1_1 l1_2).bind fun bt238 => (if t237 = bt238.2 then ((swashplatelaw07_sameFractions.f k t234 bt238.1).bind fun t242 => (swashplatelaw07_SlingSwings.j0 k (!t242) a0_0 a0_1 a0_2 a1_0 a1_1 l1_2 a1_3 a1_4 a1_5)) else (swashplatelaw07_SlingSwings.j0 k true a0_0 a0_1 a0_2 a1_0 a1_1 l1_2 a1_3 a1_4 a1_5))) = some r := H
  have A6 := Aside0.mk A60
  clear A60
  replace H := Option.bind_eq_some_iff.mp H
  obtain ⟨⟨t238, t241⟩, A70, H⟩ := H
  replace H : (if t237 = t241 then ((swashplatelaw07_sameFractions.f k t234 t238).bind fun t242 => (swashplatelaw07_SlingSwings.j0 k (!t242) a0_0 a0_1 a0_2 a1_0 a1_1 l1_2 a1_3 a1_4 a1_5)) else (swashplatelaw07_SlingSwings.j0 k true a0_0 a0_1 a0_2 a1_0 a1_1 l1_2 a1_3 a1_4 a1_5)) = some r := H
  have A7 := Aside0.mk A70
  clear A70
  have HC8 := Aside0.mk H
  clear H
  go_enter Try.func16, Try.ntmps16
  try go_wp2_with (first | ((with_reducible refine gate_dst (N := 2) rfl ?_); refine box_event ?hg (N := 2) ?hd (cs := #[.int .i64 a0_0, .int .i64 a0_1, .int .i64 a0_2]) (t := 105) ?hr ?_; (case hd => rfl); (case hg => rfl); (case hr => first | (go_simp; done) | (go_simp; rfl)); intro gb230 hg w9 hbox hb; have n0_ := Aside0.mk (below_step (bl_ HB.out) hb); have n1_ := Aside0.mk (hbox); have n2_ := Aside0.mk (szl_ hg HB.out); have n3_ := Aside0.mk (szl_ hg HB.out); clear HB; have HB := n0_; have BK230 := n1_; have GW230 := n2_; have GE230 := n3_; clear n0_ n1_ n2_ n3_ hb hbox hg) | ((with_reducible refine gate_dst (N := 3) rfl ?_); refine box_event ?hg (N := 3) ?hd (cs := #[.int .i64 a1_0, .int .i64 a1_1, .slice A1_2 l1_2.length c1_2, .int .i64 a1_3, .int .i64 a1_4, .int .i64 a1_5]) (t := 107) ?hr ?_; (case hd => rfl); (case hg => rfl); (case hr => first | (go_simp; done) | (go_simp; rfl)); intro gb231 hg w10 hbox hb; have n0_ := Aside0.mk (blk_below (bk_ BK230.out) hb); have n1_ := Aside0.mk (below_step (bl_ HB.out) hb); have n2_ := Aside0.mk (hbox); have n3_ := Aside0.mk (szl_ hg HB.out); have n4_ := Aside0.mk (szl_ hg HB.out); have n5_ := Aside0.mk (nel_ hg BK230.out); have n6_ := Aside0.mk (ner_ hg BK230.out); clear BK230 HB; have BK230 := n0_; have HB := n1_; have BK231 := n2_; have GW231 := n3_; have GE231 := n4_; have NB230_231 := n5_; have NB231_230 := n6_; clear n0_ n1_ n2_ n3_ n4_ n5_ n6_ hb hbox hg))
  have n0_ := Aside0.mk (blk_drew BK230.out)
  have n1_ := Aside0.mk (blk_drew BK231.out)
  have n2_ := Aside0.mk (below_drew1 HB.out)
  clear BK230 BK231 HB
  have BK230 := n0_
  have BK231 := n1_
  have HB := n2_
  clear n0_ n1_ n2_
  refine start_ (n := 5) (S := fun w' => w'.cell? ⟨gb230, 0, none⟩ = some (.int .i64 a0_0) ∧ w'.cell? ⟨gb230, 1, none⟩ = some (.int .i64 a0_1) ∧ w'.cell? ⟨gb230, 2, none⟩ = some (.int .i64 a0_2)) (ds := []) #[false, false, false, false, false] (by kernel_rfl) rfl rfl ⟨(blk_cell BK230.out 0).trans rfl, (blk_cell BK230.out 1).trans rfl, (blk_cell BK230.out 2).trans rfl⟩ (fun hHeld => ?_)
  generalize w10.drew = w11 at BK230 BK231 HB hHeld ⊢
  refine take_ (i := 0) (N := some 11) (v := ?_) (a' := ?_) #[true, false, false, false, false] rfl rfl (by kernel_rfl) (fun _ _ _ h => h) (Or.inl ⟨by rfl, ?_⟩) hHeld ?_ ?_
  rotate_left
  ·
   rintro w' ⟨s0, s1, s2⟩
   go_simp
   with_reducible rfl
  rotate_left
  ·
   simp only [Act.put, List.setIfInBounds_toArray, List.set_cons_zero, List.set_cons_succ, i64_w, i32_w]
   rfl
  refine take_ (i := 2) (N := some 13) (v := ?_) (a' := ?_) #[true, false, true, false, false] rfl rfl (by kernel_rfl) (fun _ _ _ h => h) (Or.inl ⟨by rfl, ?_⟩) hHeld ?_ ?_
  rotate_left
  ·
   rintro w' ⟨s0, s1, s2⟩
   go_simp
   with_reducible rfl
  rotate_left
  ·
   simp only [Act.put, List.setIfInBounds_toArray, List.set_cons_zero, List.set_cons_succ, i64_w, i32_w]
   rfl
  refine one_ (i := 1) (N := some 12) #[true, true, true, false, false] rfl rfl (by kernel_rfl) (by decide) (fun K hK => ?_)
  refine goes_ Try.func68 (by kernel_rfl) rfl #[.agg #[.int .i64 a0_0, .int .i64 a0_1, .int .i64 a0_2]] (by rfl) rfl rfl (by (try simp only [List.map_toArray, List.map_cons, List.map_nil]); first | done | rfl | (simp only [List.length_drop, List.length_take]; rfl)) ?_
  with_reducible refine (sling_Check.calls a0_0 a0_1 a0_2 t232 _ A3.out).mono ?_
  rintro e w12 ⟨rfl, hb⟩
  refine ⟨_, rfl, ?_⟩
  have n0_ := Aside0.mk (blk_below (bk_ BK230.out) hb)
  have n1_ := Aside0.mk (blk_below (bk_ BK231.out) hb)
  have n2_ := Aside0.mk (below_step (bl_ HB.out) hb)
  clear BK230 BK231 HB
  have BK230 := n0_
  have BK231 := n1_
  have HB := n2_
  clear n0_ n1_ n2_
  (try clear hb)
  (try clear hb2)
  (try clear hk)
  (try clear hi)
  refine hK.out _ _ ⟨(blk_cell BK230.out 0).trans rfl, (blk_cell BK230.out 1).trans rfl, (blk_cell BK230.out 2).trans rfl⟩ (fun hHeld => ?_)
  clear hK K
  refine norm_ (a' := ?_) ?_ ?_
  rotate_left
  ·
   show Act.put _ (some 12) _ = _
   simp only [Act.put, List.setIfInBounds_toArray, List.set_cons_zero, List.set_cons_succ, i64_w, i32_w]
   rfl
  refine one_ (i := 3) (N := some 14) #[true, true, true, true, false] rfl rfl (by kernel_rfl) (by decide) (fun K hK => ?_)
  refine goes_ Try.func69 (by kernel_rfl) rfl #[.agg #[.int .i64 a0_0, .int .i64 a0_1, .int .i64 a0_2]] (by rfl) rfl rfl (by (try simp only [List.map_toArray, List.map_cons, List.map_nil]); first | done | rfl | (simp only [List.length_drop, List.length_take]; rfl)) ?_
  with_reducible refine (swashplateref07_Check.calls a0_0 a0_1 a0_2 t233 _ A4.out).mono ?_
  rintro e w13 ⟨rfl, hb⟩
  refine ⟨_, rfl, ?_⟩
  have n0_ := Aside0.mk (blk_below (bk_ BK230.out) hb)
  have n1_ := Aside0.mk (blk_below (bk_ BK231.out) hb)
  have n2_ := Aside0.mk (below_step (bl_ HB.out) hb)
  clear BK230 BK231 HB
  have BK230 := n0_
  have BK231 := n1_
  have HB := n2_
  clear n0_ n1_ n2_
  (try clear hb)
  (try clear hb2)
  (try clear hk)
  (try clear hi)
  refine hK.out _ _ ⟨(blk_cell BK230.out 0).trans rfl, (blk_cell BK230.out 1).trans rfl, (blk_cell BK230.out 2).trans rfl⟩ (fun hHeld => ?_)
  clear hK K
  refine norm_ (a' := ?_) ?_ ?_
  rotate_left
  ·
   show Act.put _ (some 14) _ = _
   simp only [Act.put, List.setIfInBounds_toArray, List.set_cons_zero, List.set_cons_succ, i64_w, i32_w]
   rfl
  refine pure_ (i := 4) (N := some 15) (v := ?_) (a' := ?_) #[true, true, true, true, true] rfl rfl (by kernel_rfl) (fun _ _ _ h => h) (Or.inl ⟨by rfl, ?_⟩) ?_ ?_
  rotate_left
  ·
   intro w'
   go_simp
   with_reducible rfl
  rotate_left
  ·
   simp only [Act.put, List.setIfInBounds_toArray, List.set_cons_zero, List.set_cons_succ, i64_w, i32_w]
   rfl
  refine done_ (by kernel_rfl) ?_
  have hnb14 := NB230_231.out
  have hnc14 := NB231_230.out
  have hcz15_0 : w13.cell? ⟨gb230, 0, none⟩ = some (.int .i64 a0_0) := (blk_cell BK230.out 0).trans rfl
  have hcz15_1 : w13.cell? ⟨gb230, 1, none⟩ = some (.int .i64 a0_1) := (blk_cell BK230.out 1).trans rfl
  have hcz15_2 : w13.cell? ⟨gb230, 2, none⟩ = some (.int .i64 a0_2) := (blk_cell BK230.out 2).trans rfl
  have hfz15_0 := blk_frozen BK230.out 0
  have hfz15_1 := blk_frozen BK230.out 1
  have hfz15_2 := blk_frozen BK230.out 2
  have hcz16_0 : w13.cell? ⟨gb231, 0, none⟩ = some (.int .i64 a1_0) := (blk_cell BK231.out 0).trans rfl
  have hcz16_1 : w13.cell? ⟨gb231, 1, none⟩ = some (.int .i64 a1_1) := (blk_cell BK231.out 1).trans rfl
  have hcz16_2 : w13.cell? ⟨gb231, 2, none⟩ = some (.slice A1_2 l1_2.length c1_2) := (blk_cell BK231.out 2).trans rfl
  have hcz16_3 : w13.cell? ⟨gb231, 3, none⟩ = some (.int .i64 a1_3) := (blk_cell BK231.out 3).trans rfl
  have hcz16_4 : w13.cell? ⟨gb231, 4, none⟩ = some (.int .i64 a1_4) := (blk_cell BK231.out 4).trans rfl
  have hcz16_5 : w13.cell? ⟨gb231, 5, none⟩ = some (.int .i64 a1_5) := (blk_cell BK231.out 5).trans rfl
  have hfz16_0 := blk_frozen BK231.out 0
  have hfz16_1 := blk_frozen BK231.out 1
  have hfz16_2 := blk_frozen BK231.out 2
  have hfz16_3 := blk_frozen BK231.out 3
  have hfz16_4 := blk_frozen BK231.out 4
  have hfz16_5 := blk_frozen BK231.out 5
  go_upto_region 5 with (first | ((with_reducible refine gate_callee (f := 70) rfl ?_); refine goesL_ (some 22) rfl rfl Try.func70 (by kernel_rfl) rfl #[.agg #[.int .i64 a0_0, .int .i64 a0_1, .int .i64 a0_2], .agg #[.int .i64 a1_0, .int .i64 a1_1], .slice A1_2 l1_2.length c1_2] rfl (by (try simp only [List.map_toArray, List.map_cons, List.map_nil]); first | done | rfl | (simp only [List.length_drop, List.length_take]; rfl)) ?_; (with_reducible refine (sling_Swing.calls a0_0 a0_1 a0_2 a1_0 a1_1 _ _ l1_2 t234 t237 _ ?side1 ?side2 A6.out).mono ?_); (case side1 => exact cr_ (Kd.C_below HR1_2.out HB.out)); (case side2 => exact HC1_2.out); rintro e w17 ⟨v235, rfl, ho0, hb⟩; refine ⟨_, rfl, ?_⟩; have n0_ := Aside0.mk (Kd.R_lower ho0 (below_size (bl_ HB.out))); have n1_ := Aside0.mk (blk_below (bk_ BK230.out) hb); have n2_ := Aside0.mk (blk_below (bk_ BK231.out) hb); have n3_ := Aside0.mk (below_step (bl_ HB.out) hb); clear BK230 BK231 HB; have HO236 := n0_; have BK230 := n1_; have BK231 := n2_; have HB := n3_; clear n0_ n1_ n2_ n3_; (try clear hb); (try clear hb2); (try clear hk); (try clear hi); (try clear ho0); have hcz18_0 : w17.cell? ⟨gb230, 0, none⟩ = some (.int .i64 a0_0) := (blk_cell BK230.out 0).trans rfl; have hcz18_1 : w17.cell? ⟨gb230, 1, none⟩ = some (.int .i64 a0_1) := (blk_cell BK230.out 1).trans rfl; have hcz18_2 : w17.cell? ⟨gb230, 2, none⟩ = some (.int .i64 a0_2) := (blk_cell BK230.out 2).trans rfl; have hfz18_0 := blk_frozen BK230.out 0; have hfz18_1 := blk_frozen BK230.out 1; have hfz18_2 := blk_frozen BK230.out 2; have hcz19_0 : w17.cell? ⟨gb231, 0, none⟩ = some (.int .i64 a1_0) := (blk_cell BK231.out 0).trans rfl; have hcz19_1 : w17.cell? ⟨gb231, 1, none⟩ = some (.int .i64 a1_1) := (blk_cell BK231.out 1).trans rfl; have hcz19_2 : w17.cell? ⟨gb231, 2, none⟩ = some (.slice A1_2 l1_2.length c1_2) := (blk_cell BK231.out 2).trans rfl; have hcz19_3 : w17.cell? ⟨gb231, 3, none⟩ = some (.int .i64 a1_3) := (blk_cell BK231.out 3).trans rfl; have hcz19_4 : w17.cell? ⟨gb231, 4, none⟩ = some (.int .i64 a1_4) := (blk_cell BK231.out 4).trans rfl; have hcz19_5 : w17.cell? ⟨gb231, 5, none⟩ = some (.int .i64 a1_5) := (blk_cell BK231.out 5).trans rfl; have hfz19_0 := blk_frozen BK231.out 0; have hfz19_1 := blk_frozen BK231.out 1; have hfz19_2 := blk_frozen BK231.out 2; have hfz19_3 := blk_frozen BK231.out 3; have hfz19_4 := blk_frozen BK231.out 4; have hfz19_5 := blk_frozen BK231.out 5) | ((with_reducible refine gate_callee (f := 71) rfl ?_); refine goesL_ (some 31) rfl rfl Try.func71 (by kernel_rfl) rfl #[.agg #[.int .i64 a0_0, .int .i64 a0_1, .int .i64 a0_2], .agg #[.int .i64 a1_0, .int .i64 a1_1], .slice A1_2 l1_2.length c1_2] rfl (by (try simp only [List.map_toArray, List.map_cons, List.map_nil]); first | done | rfl | (simp only [List.length_drop, List.length_take]; rfl)) ?_; (with_reducible refine (swashplateref07_Swing.calls k a0_0 a0_1 a0_2 a1_0 a1_1 _ _ l1_2 t238 t241 _ ?side1 ?side2 A7.out).mono ?_); (case side1 => exact cr_ (Kd.C_below HR1_2.out HB.out)); (case side2 => exact HC1_2.out); rintro e w20 ⟨v239, rfl, ho0, hb⟩; refine ⟨_, rfl, ?_⟩; have n0_ := Aside0.mk (Kd.R_elder' (by (with_reducible repeat (first | apply Kd.R_alloc | apply Kd.R_drewN | apply Kd.R_drew)); exact HO236.out) (Kd.R_base ho0) hb); have n1_ := Aside0.mk (Kd.R_lower (Kd.R_new' ho0 (Kd.R_lt (by (with_reducible repeat (first | apply Kd.R_alloc | apply Kd.R_drewN | apply Kd.R_drew)); exact HO236.out))) (below_size (bl_ HB.out))); have n2_ := Aside0.mk (blk_below (bk_ BK230.out) hb); have n3_ := Aside0.mk (blk_below (bk_ BK231.out) hb); have n4_ := Aside0.mk (below_step (bl_ HB.out) hb); clear HO236 BK230 BK231 HB; have HO236 := n0_; have HO240 := n1_; have BK230 := n2_; have BK231 := n3_; have HB := n4_; clear n0_ n1_ n2_ n3_ n4_; (try clear hb); (try clear hb2); (try clear hk); (try clear hi); (try clear ho0)))
  (try simp only [Act.put, List.setIfInBounds_toArray, List.set_cons_zero, List.set_cons_succ])
  go_cut [42] (fun v42 wc => ∃ (kq : Nat) (x42_7 : Bool), v42 = .bool x42_7 ∧ Aside0 (swashplatelaw07_SlingSwings.j0 kq x42_7 a0_0 a0_1 a0_2 a1_0 a1_1 l1_2 a1_3 a1_4 a1_5 = some r) ∧ Aside0 (kq ≤ k) ∧ Aside0 (wc.heap[gb230]? = some (.cells #[.int .i64 a0_0, .int .i64 a0_1, .int .i64 a0_2] 105 (0, 0))) ∧ Aside0 (wc.heap[gb231]? = some (.cells #[.int .i64 a1_0, .int .i64 a1_1, (.slice A1_2 l1_2.length c1_2), .int .i64 a1_3, .int .i64 a1_4, .int .i64 a1_5] 107 (0, 0))) ∧ Aside0 (Below w.heap.size w wc))
  case first =>
   have H := HC8.out
   clear HC8
   by_cases c21 : t237 = t241
   ·
    rw [if_pos c21] at H
    have c21b0 : (t237 == t241) = true := beq_iff_eq.mpr c21
    have c21b1 : (t237 != t241) = false := bne_eq_false_iff_eq.mpr c21
    clear c21
    (first | rw [c21b0] | (simp only [i64_w, i32_w]; rw [c21b0]) | skip)
    replace H := Option.bind_eq_some_iff.mp H
    obtain ⟨t242, A220, H⟩ := H
    replace H : (swashplatelaw07_SlingSwings.j0 k (!t242) a0_0 a0_1 a0_2 a1_0 a1_1 l1_2 a1_3 a1_4 a1_5) = some r := H
    have A22 := Aside0.mk A220
    clear A220
    have H' := Aside0.mk H
    clear H
    obtain ⟨Ao23, co23, eo23⟩ := Kd.R_slice HO236.out
    subst eo23
    obtain ⟨Ao24, co24, eo24⟩ := Kd.R_slice HO240.out
    subst eo24
    go_wp2_with (first | (go_at_call 72; (with_reducible refine (swashplatelaw07_sameFractions.calls k _ _ t234 _ _ t238 t242 _ ?side1 ?side2 ?side3 ?side4 A22.out).mono ?_); (case side1 => exact cr_ (Kd.R_reads' HO236.out).2.2); (case side2 => exact (Kd.R_reads' HO236.out).2.1); (case side3 => exact cr_ (Kd.R_reads' HO240.out).2.2); (case side4 => exact (Kd.R_reads' HO240.out).2.1); rintro e w' ⟨rfl, ⟨nd, rfl⟩⟩))
    go_meet
    case rel => exact ⟨_, (!t242), (by first | rfl | (simp; done) | (simp [*]; done)), H', ⟨by first | omega | exact Nat.le_refl _⟩, ⟨bk_ BK230.out⟩, ⟨bk_ BK231.out⟩, ⟨bl_ HB.out⟩⟩
   ·
    rw [if_neg c21] at H
    have c21b0 : (t237 == t241) = false := beq_eq_false_iff_ne.mpr c21
    have c21b1 : (t237 != t241) = true := bne_iff_ne.mpr c21
    (first | rw [c21b0] | (simp only [i64_w, i32_w]; rw [c21b0]) | skip)
    have H' := Aside0.mk H
    clear H
    go_wp2
    go_meet
    case rel => exact ⟨_, (true), (by first | rfl | (simp; done) | (simp [*]; done)), H', ⟨by first | omega | exact Nat.le_refl _⟩, ⟨bk_ BK230.out⟩, ⟨bk_ BK231.out⟩, ⟨bl_ HB.out⟩⟩
  case rest =>
   clear HC8
   try clear c1
   try clear c2
   try clear p2
   try clear c5
   try clear c5b0
   try clear c5b1
   try clear c6
   try clear c7
   try clear c14
   try clear c16
   try clear c21
   try clear c21b0
   try clear c21b1
   try clear hcz15_0
   try clear hcz15_1
   try clear hcz15_2
   try clear hcz16_0
   try clear hcz16_1
   try clear hcz16_2
   try clear hcz16_3
   try clear hcz16_4
   try clear hcz16_5
   try clear hcz18_0
   try clear hcz18_1
   try clear hcz18_2
   try clear hcz19_0
   try clear hcz19_1
   try clear hcz19_2
   try clear hcz19_3
   try clear hcz19_4
   try clear hcz19_5
   try clear hfz15_0
   try clear hfz15_1
   try clear hfz15_2
   try clear hfz16_0
   try clear hfz16_1
   try clear hfz16_2
   try clear hfz16_3
   try clear hfz16_4
   try clear hfz16_5
   try clear hfz18_0
   try clear hfz18_1
   try clear hfz18_2
   try clear hfz19_0
   try clear hfz19_1
   try clear hfz19_2
   try clear hfz19_3
   try clear hfz19_4
   try clear hfz19_5
   obtain ⟨kq, x42_7, rfl, HA, HJ7, BK230, BK231, HB⟩ := hcut
   cases kq with
   | zero => exact absurd HA.out (by simp [swashplatelaw07_SlingSwings.j0])
   | succ kj7 =>
    have H := HA.out
    clear HA
    simp only [swashplatelaw07_SlingSwings.j0] at H
    by_cases c25 : x42_7 = true
    ·
     subst c25
     have H1 : (some false) = some r := by rw [if_pos rfl] at H; exact H
     clear H
     have H := H1
     clear H1
     obtain rfl := Option.some.inj H
     go_wp2
     go_ret
     exact ⟨by first | rfl | (simp [errW_none, errW_some] <;> rfl) | (simp [*, errW_none, errW_some] <;> rfl), bl_ HB.out⟩
    ·
     replace c25 := Bool.eq_false_iff.mpr c25
     subst c25
     have H1 : ((sling_Calm.f a0_0 a0_1 a0_2 a1_0 a1_1 a1_3 a1_4 a1_5).bind fun bt243 => ((swashplateref07_Calm.f kj7 a0_0 a0_1 a0_2 a1_0 a1_1 a1_3 a1_4 a1_5).bind fun bt245 => (if bt243.1 = bt245.1 then (if bt243.2 = bt245.2 then ((swashplatelaw07_works.f kj7).bind fun t247 => (some t247)) else (some false)) else (some false)))) = some r := by rw [if_neg (show ¬ (false = true) by decide)] at H; exact H
     clear H
     have H := H1
     clear H1
     replace H := Option.bind_eq_some_iff.mp H
     obtain ⟨⟨t243, t244⟩, A260, H⟩ := H
     replace H : ((swashplateref07_Calm.f kj7 a0_0 a0_1 a0_2 a1_0 a1_1 a1_3 a1_4 a1_5).bind fun bt245 => (if t243 = bt245.1 then (if t244 = bt245.2 then ((swashplatelaw07_works.f kj7).bind fun t247 => (some t247)) else (some false)) else (some false))) = some r := H
     have A26 := Aside0.mk A260
     clear A260
     replace H := Option.bind_eq_some_iff.mp H
     obtain ⟨⟨t245, t246⟩, A270, H⟩ := H
     replace H : (if t243 = t245 then (if t244 = t246 then ((swashplatelaw07_works.f kj7).bind fun t247 => (some t247)) else (some false)) else (some false)) = some r := H
     have A27 := Aside0.mk A270
     clear A270
     by_cases c28 : t243 = t245
     ·
      rw [if_pos c28] at H
      have c28b0 : (t243 == t245) = true := beq_iff_eq.mpr c28
      have c28b1 : (t243 != t245) = false := bne_eq_false_iff_eq.mpr c28
      clear c28
      by_cases c29 : t244 = t246
      ·
       rw [if_pos c29] at H
       have c29b0 : (t244 == t246) = true := beq_iff_eq.mpr c29
       have c29b1 : (t244 != t246) = false := bne_eq_false_iff_eq.mpr c29
       clear c29
       replace H := Option.bind_eq_some_iff.mp H
       obtain ⟨t247, A300, H⟩ := H
       replace H : (some t247) = some r := H
       have A30 := Aside0.mk A300
       clear A300
       obtain rfl := Option.some.inj H
       have hnb31 := NB230_231.out
       have hnc31 := NB231_230.out
       have hcz32_0 : wc.cell? ⟨gb230, 0, none⟩ = some (.int .i64 a0_0) := (blk_cell BK230.out 0).trans rfl
       have hcz32_1 : wc.cell? ⟨gb230, 1, none⟩ = some (.int .i64 a0_1) := (blk_cell BK230.out 1).trans rfl
       have hcz32_2 : wc.cell? ⟨gb230, 2, none⟩ = some (.int .i64 a0_2) := (blk_cell BK230.out 2).trans rfl
       have hfz32_0 := blk_frozen BK230.out 0
       have hfz32_1 := blk_frozen BK230.out 1
       have hfz32_2 := blk_frozen BK230.out 2
       have hcz33_0 : wc.cell? ⟨gb231, 0, none⟩ = some (.int .i64 a1_0) := (blk_cell BK231.out 0).trans rfl
       have hcz33_1 : wc.cell? ⟨gb231, 1, none⟩ = some (.int .i64 a1_1) := (blk_cell BK231.out 1).trans rfl
       have hcz33_2 : wc.cell? ⟨gb231, 2, none⟩ = some (.slice A1_2 l1_2.length c1_2) := (blk_cell BK231.out 2).trans rfl
       have hcz33_3 : wc.cell? ⟨gb231, 3, none⟩ = some (.int .i64 a1_3) := (blk_cell BK231.out 3).trans rfl
       have hcz33_4 : wc.cell? ⟨gb231, 4, none⟩ = some (.int .i64 a1_4) := (blk_cell BK231.out 4).trans rfl
       have hcz33_5 : wc.cell? ⟨gb231, 5, none⟩ = some (.int .i64 a1_5) := (blk_cell BK231.out 5).trans rfl
       have hfz33_0 := blk_frozen BK231.out 0
       have hfz33_1 := blk_frozen BK231.out 1
       have hfz33_2 := blk_frozen BK231.out 2
       have hfz33_3 := blk_frozen BK231.out 3
       have hfz33_4 := blk_frozen BK231.out 4
       have hfz33_5 := blk_frozen BK231.out 5
       go_wp2_with (first | ((with_reducible refine gate_callee (f := 73) rfl ?_); refine goesL_ (some 51) rfl rfl Try.func73 (by kernel_rfl) rfl #[.agg #[.int .i64 a0_0, .int .i64 a0_1, .int .i64 a0_2], .agg #[.int .i64 a1_0, .int .i64 a1_1], .int .i64 a1_3, .agg #[.int .i64 a1_4, .int .i64 a1_5]] rfl (by (try simp only [List.map_toArray, List.map_cons, List.map_nil]); first | done | rfl | (simp only [List.length_drop, List.length_take]; rfl)) ?_; (with_reducible refine (sling_Calm.calls a0_0 a0_1 a0_2 a1_0 a1_1 a1_3 a1_4 a1_5 t243 t244 _ A26.out).mono ?_); rintro e w34 ⟨rfl, hb⟩; refine ⟨_, rfl, ?_⟩; have n0_ := Aside0.mk (blk_below (bk_ BK230.out) hb); have n1_ := Aside0.mk (blk_below (bk_ BK231.out) hb); have n2_ := Aside0.mk (below_step (bl_ HB.out) hb); clear BK230 BK231 HB; have BK230 := n0_; have BK231 := n1_; have HB := n2_; clear n0_ n1_ n2_; (try clear hb); (try clear hb2); (try clear hk); (try clear hi); have hcz35_0 : w34.cell? ⟨gb230, 0, none⟩ = some (.int .i64 a0_0) := (blk_cell BK230.out 0).trans rfl; have hcz35_1 : w34.cell? ⟨gb230, 1, none⟩ = some (.int .i64 a0_1) := (blk_cell BK230.out 1).trans rfl; have hcz35_2 : w34.cell? ⟨gb230, 2, none⟩ = some (.int .i64 a0_2) := (blk_cell BK230.out 2).trans rfl; have hfz35_0 := blk_frozen BK230.out 0; have hfz35_1 := blk_frozen BK230.out 1; have hfz35_2 := blk_frozen BK230.out 2; have hcz36_0 : w34.cell? ⟨gb231, 0, none⟩ = some (.int .i64 a1_0) := (blk_cell BK231.out 0).trans rfl; have hcz36_1 : w34.cell? ⟨gb231, 1, none⟩ = some (.int .i64 a1_1) := (blk_cell BK231.out 1).trans rfl; have hcz36_2 : w34.cell? ⟨gb231, 2, none⟩ = some (.slice A1_2 l1_2.length c1_2) := (blk_cell BK231.out 2).trans rfl; have hcz36_3 : w34.cell? ⟨gb231, 3, none⟩ = some (.int .i64 a1_3) := (blk_cell BK231.out 3).trans rfl; have hcz36_4 : w34.cell? ⟨gb231, 4, none⟩ = some (.int .i64 a1_4) := (blk_cell BK231.out 4).trans rfl; have hcz36_5 : w34.cell? ⟨gb231, 5, none⟩ = some (.int .i64 a1_5) := (blk_cell BK231.out 5).trans rfl; have hfz36_0 := blk_frozen BK231.out 0; have hfz36_1 := blk_frozen BK231.out 1; have hfz36_2 := blk_frozen BK231.out 2; have hfz36_3 := blk_frozen BK231.out 3; have hfz36_4 := blk_frozen BK231.out 4; have hfz36_5 := blk_frozen BK231.out 5) | ((with_reducible refine gate_callee (f := 74) rfl ?_); refine goesL_ (some 62) rfl rfl Try.func74 (by kernel_rfl) rfl #[.agg #[.int .i64 a0_0, .int .i64 a0_1, .int .i64 a0_2], .agg #[.int .i64 a1_0, .int .i64 a1_1], .int .i64 a1_3, .agg #[.int .i64 a1_4, .int .i64 a1_5]] rfl (by (try simp only [List.map_toArray, List.map_cons, List.map_nil]); first | done | rfl | (simp only [List.length_drop, List.length_take]; rfl)) ?_; (with_reducible refine (swashplateref07_Calm.calls kj7 a0_0 a0_1 a0_2 a1_0 a1_1 a1_3 a1_4 a1_5 t245 t246 _ A27.out).mono ?_); rintro e w37 ⟨rfl, hb⟩; refine ⟨_, rfl, ?_⟩; have n0_ := Aside0.mk (blk_below (bk_ BK230.out) hb); have n1_ := Aside0.mk (blk_below (bk_ BK231.out) hb); have n2_ := Aside0.mk (below_step (bl_ HB.out) hb); clear BK230 BK231 HB; have BK230 := n0_; have BK231 := n1_; have HB := n2_; clear n0_ n1_ n2_; (try clear hb); (try clear hb2); (try clear hk); (try clear hi)) | (go_at_call 75; (with_reducible refine (swashplatelaw07_works.calls kj7  t247 _ A30.out).mono ?_); rintro e w38 ⟨rfl, hb⟩; have n0_ := Aside0.mk (blk_below (bk_ BK230.out) hb); have n1_ := Aside0.mk (blk_below (bk_ BK231.out) hb); have n2_ := Aside0.mk (below_step (bl_ HB.out) hb); clear BK230 BK231 HB; have BK230 := n0_; have BK231 := n1_; have HB := n2_; clear n0_ n1_ n2_; (try clear hb); (try clear hb2); (try clear hk); (try clear hi)))
       go_ret
       exact ⟨by first | rfl | (simp [errW_none, errW_some] <;> rfl) | (simp [*, errW_none, errW_some] <;> rfl), bl_ HB.out⟩
      ·
       rw [if_neg c29] at H
       have c29b0 : (t244 == t246) = false := beq_eq_false_iff_ne.mpr c29
       have c29b1 : (t244 != t246) = true := bne_iff_ne.mpr c29
       obtain rfl := Option.some.inj H
       have hnb39 := NB230_231.out
       have hnc39 := NB231_230.out
       have hcz40_0 : wc.cell? ⟨gb230, 0, none⟩ = some (.int .i64 a0_0) := (blk_cell BK230.out 0).trans rfl
       have hcz40_1 : wc.cell? ⟨gb230, 1, none⟩ = some (.int .i64 a0_1) := (blk_cell BK230.out 1).trans rfl
       have hcz40_2 : wc.cell? ⟨gb230, 2, none⟩ = some (.int .i64 a0_2) := (blk_cell BK230.out 2).trans rfl
       have hfz40_0 := blk_frozen BK230.out 0
       have hfz40_1 := blk_frozen BK230.out 1
       have hfz40_2 := blk_frozen BK230.out 2
       have hcz41_0 : wc.cell? ⟨gb231, 0, none⟩ = some (.int .i64 a1_0) := (blk_cell BK231.out 0).trans rfl
       have hcz41_1 : wc.cell? ⟨gb231, 1, none⟩ = some (.int .i64 a1_1) := (blk_cell BK231.out 1).trans rfl
       have hcz41_2 : wc.cell? ⟨gb231, 2, none⟩ = some (.slice A1_2 l1_2.length c1_2) := (blk_cell BK231.out 2).trans rfl
       have hcz41_3 : wc.cell? ⟨gb231, 3, none⟩ = some (.int .i64 a1_3) := (blk_cell BK231.out 3).trans rfl
       have hcz41_4 : wc.cell? ⟨gb231, 4, none⟩ = some (.int .i64 a1_4) := (blk_cell BK231.out 4).trans rfl
       have hcz41_5 : wc.cell? ⟨gb231, 5, none⟩ = some (.int .i64 a1_5) := (blk_cell BK231.out 5).trans rfl
       have hfz41_0 := blk_frozen BK231.out 0
       have hfz41_1 := blk_frozen BK231.out 1
       have hfz41_2 := blk_frozen BK231.out 2
       have hfz41_3 := blk_frozen BK231.out 3
       have hfz41_4 := blk_frozen BK231.out 4
       have hfz41_5 := blk_frozen BK231.out 5
       go_wp2_with (first | ((with_reducible refine gate_callee (f := 73) rfl ?_); refine goesL_ (some 51) rfl rfl Try.func73 (by kernel_rfl) rfl #[.agg #[.int .i64 a0_0, .int .i64 a0_1, .int .i64 a0_2], .agg #[.int .i64 a1_0, .int .i64 a1_1], .int .i64 a1_3, .agg #[.int .i64 a1_4, .int .i64 a1_5]] rfl (by (try simp only [List.map_toArray, List.map_cons, List.map_nil]); first | done | rfl | (simp only [List.length_drop, List.length_take]; rfl)) ?_; (with_reducible refine (sling_Calm.calls a0_0 a0_1 a0_2 a1_0 a1_1 a1_3 a1_4 a1_5 t243 t244 _ A26.out).mono ?_); rintro e w42 ⟨rfl, hb⟩; refine ⟨_, rfl, ?_⟩; have n0_ := Aside0.mk (blk_below (bk_ BK230.out) hb); have n1_ := Aside0.mk (blk_below (bk_ BK231.out) hb); have n2_ := Aside0.mk (below_step (bl_ HB.out) hb); clear BK230 BK231 HB; have BK230 := n0_; have BK231 := n1_; have HB := n2_; clear n0_ n1_ n2_; (try clear hb); (try clear hb2); (try clear hk); (try clear hi); have hcz43_0 : w42.cell? ⟨gb230, 0, none⟩ = some (.int .i64 a0_0) := (blk_cell BK230.out 0).trans rfl; have hcz43_1 : w42.cell? ⟨gb230, 1, none⟩ = some (.int .i64 a0_1) := (blk_cell BK230.out 1).trans rfl; have hcz43_2 : w42.cell? ⟨gb230, 2, none⟩ = some (.int .i64 a0_2) := (blk_cell BK230.out 2).trans rfl; have hfz43_0 := blk_frozen BK230.out 0; have hfz43_1 := blk_frozen BK230.out 1; have hfz43_2 := blk_frozen BK230.out 2; have hcz44_0 : w42.cell? ⟨gb231, 0, none⟩ = some (.int .i64 a1_0) := (blk_cell BK231.out 0).trans rfl; have hcz44_1 : w42.cell? ⟨gb231, 1, none⟩ = some (.int .i64 a1_1) := (blk_cell BK231.out 1).trans rfl; have hcz44_2 : w42.cell? ⟨gb231, 2, none⟩ = some (.slice A1_2 l1_2.length c1_2) := (blk_cell BK231.out 2).trans rfl; have hcz44_3 : w42.cell? ⟨gb231, 3, none⟩ = some (.int .i64 a1_3) := (blk_cell BK231.out 3).trans rfl; have hcz44_4 : w42.cell? ⟨gb231, 4, none⟩ = some (.int .i64 a1_4) := (blk_cell BK231.out 4).trans rfl; have hcz44_5 : w42.cell? ⟨gb231, 5, none⟩ = some (.int .i64 a1_5) := (blk_cell BK231.out 5).trans rfl; have hfz44_0 := blk_frozen BK231.out 0; have hfz44_1 := blk_frozen BK231.out 1; have hfz44_2 := blk_frozen BK231.out 2; have hfz44_3 := blk_frozen BK231.out 3; have hfz44_4 := blk_frozen BK231.out 4; have hfz44_5 := blk_frozen BK231.out 5) | ((with_reducible refine gate_callee (f := 74) rfl ?_); refine goesL_ (some 62) rfl rfl Try.func74 (by kernel_rfl) rfl #[.agg #[.int .i64 a0_0, .int .i64 a0_1, .int .i64 a0_2], .agg #[.int .i64 a1_0, .int .i64 a1_1], .int .i64 a1_3, .agg #[.int .i64 a1_4, .int .i64 a1_5]] rfl (by (try simp only [List.map_toArray, List.map_cons, List.map_nil]); first | done | rfl | (simp only [List.length_drop, List.length_take]; rfl)) ?_; (with_reducible refine (swashplateref07_Calm.calls kj7 a0_0 a0_1 a0_2 a1_0 a1_1 a1_3 a1_4 a1_5 t245 t246 _ A27.out).mono ?_); rintro e w45 ⟨rfl, hb⟩; refine ⟨_, rfl, ?_⟩; have n0_ := Aside0.mk (blk_below (bk_ BK230.out) hb); have n1_ := Aside0.mk (blk_below (bk_ BK231.out) hb); have n2_ := Aside0.mk (below_step (bl_ HB.out) hb); clear BK230 BK231 HB; have BK230 := n0_; have BK231 := n1_; have HB := n2_; clear n0_ n1_ n2_; (try clear hb); (try clear hb2); (try clear hk); (try clear hi)))
       go_ret
       exact ⟨by first | rfl | (simp [errW_none, errW_some] <;> rfl) | (simp [*, errW_none, errW_some] <;> rfl), bl_ HB.out⟩
     ·
      rw [if_neg c28] at H
      have c28b0 : (t243 == t245) = false := beq_eq_false_iff_ne.mpr c28
      have c28b1 : (t243 != t245) = true := bne_iff_ne.mpr c28
      obtain rfl := Option.some.inj H
      have hnb46 := NB230_231.out
      have hnc46 := NB231_230.out
      have hcz47_0 : wc.cell? ⟨gb230, 0, none⟩ = some (.int .i64 a0_0) := (blk_cell BK230.out 0).trans rfl
      have hcz47_1 : wc.cell? ⟨gb230, 1, none⟩ = some (.int .i64 a0_1) := (blk_cell BK230.out 1).trans rfl
      have hcz47_2 : wc.cell? ⟨gb230, 2, none⟩ = some (.int .i64 a0_2) := (blk_cell BK230.out 2).trans rfl
      have hfz47_0 := blk_frozen BK230.out 0
      have hfz47_1 := blk_frozen BK230.out 1
      have hfz47_2 := blk_frozen BK230.out 2
      have hcz48_0 : wc.cell? ⟨gb231, 0, none⟩ = some (.int .i64 a1_0) := (blk_cell BK231.out 0).trans rfl
      have hcz48_1 : wc.cell? ⟨gb231, 1, none⟩ = some (.int .i64 a1_1) := (blk_cell BK231.out 1).trans rfl
      have hcz48_2 : wc.cell? ⟨gb231, 2, none⟩ = some (.slice A1_2 l1_2.length c1_2) := (blk_cell BK231.out 2).trans rfl
      have hcz48_3 : wc.cell? ⟨gb231, 3, none⟩ = some (.int .i64 a1_3) := (blk_cell BK231.out 3).trans rfl
      have hcz48_4 : wc.cell? ⟨gb231, 4, none⟩ = some (.int .i64 a1_4) := (blk_cell BK231.out 4).trans rfl
      have hcz48_5 : wc.cell? ⟨gb231, 5, none⟩ = some (.int .i64 a1_5) := (blk_cell BK231.out 5).trans rfl
      have hfz48_0 := blk_frozen BK231.out 0
      have hfz48_1 := blk_frozen BK231.out 1
      have hfz48_2 := blk_frozen BK231.out 2
      have hfz48_3 := blk_frozen BK231.out 3
      have hfz48_4 := blk_frozen BK231.out 4
      have hfz48_5 := blk_frozen BK231.out 5
      go_wp2_with (first | ((with_reducible refine gate_callee (f := 73) rfl ?_); refine goesL_ (some 51) rfl rfl Try.func73 (by kernel_rfl) rfl #[.agg #[.int .i64 a0_0, .int .i64 a0_1, .int .i64 a0_2], .agg #[.int .i64 a1_0, .int .i64 a1_1], .int .i64 a1_3, .agg #[.int .i64 a1_4, .int .i64 a1_5]] rfl (by (try simp only [List.map_toArray, List.map_cons, List.map_nil]); first | done | rfl | (simp only [List.length_drop, List.length_take]; rfl)) ?_; (with_reducible refine (sling_Calm.calls a0_0 a0_1 a0_2 a1_0 a1_1 a1_3 a1_4 a1_5 t243 t244 _ A26.out).mono ?_); rintro e w49 ⟨rfl, hb⟩; refine ⟨_, rfl, ?_⟩; have n0_ := Aside0.mk (blk_below (bk_ BK230.out) hb); have n1_ := Aside0.mk (blk_below (bk_ BK231.out) hb); have n2_ := Aside0.mk (below_step (bl_ HB.out) hb); clear BK230 BK231 HB; have BK230 := n0_; have BK231 := n1_; have HB := n2_; clear n0_ n1_ n2_; (try clear hb); (try clear hb2); (try clear hk); (try clear hi); have hcz50_0 : w49.cell? ⟨gb230, 0, none⟩ = some (.int .i64 a0_0) := (blk_cell BK230.out 0).trans rfl; have hcz50_1 : w49.cell? ⟨gb230, 1, none⟩ = some (.int .i64 a0_1) := (blk_cell BK230.out 1).trans rfl; have hcz50_2 : w49.cell? ⟨gb230, 2, none⟩ = some (.int .i64 a0_2) := (blk_cell BK230.out 2).trans rfl; have hfz50_0 := blk_frozen BK230.out 0; have hfz50_1 := blk_frozen BK230.out 1; have hfz50_2 := blk_frozen BK230.out 2; have hcz51_0 : w49.cell? ⟨gb231, 0, none⟩ = some (.int .i64 a1_0) := (blk_cell BK231.out 0).trans rfl; have hcz51_1 : w49.cell? ⟨gb231, 1, none⟩ = some (.int .i64 a1_1) := (blk_cell BK231.out 1).trans rfl; have hcz51_2 : w49.cell? ⟨gb231, 2, none⟩ = some (.slice A1_2 l1_2.length c1_2) := (blk_cell BK231.out 2).trans rfl; have hcz51_3 : w49.cell? ⟨gb231, 3, none⟩ = some (.int .i64 a1_3) := (blk_cell BK231.out 3).trans rfl; have hcz51_4 : w49.cell? ⟨gb231, 4, none⟩ = some (.int .i64 a1_4) := (blk_cell BK231.out 4).trans rfl; have hcz51_5 : w49.cell? ⟨gb231, 5, none⟩ = some (.int .i64 a1_5) := (blk_cell BK231.out 5).trans rfl; have hfz51_0 := blk_frozen BK231.out 0; have hfz51_1 := blk_frozen BK231.out 1; have hfz51_2 := blk_frozen BK231.out 2; have hfz51_3 := blk_frozen BK231.out 3; have hfz51_4 := blk_frozen BK231.out 4; have hfz51_5 := blk_frozen BK231.out 5) | ((with_reducible refine gate_callee (f := 74) rfl ?_); refine goesL_ (some 62) rfl rfl Try.func74 (by kernel_rfl) rfl #[.agg #[.int .i64 a0_0, .int .i64 a0_1, .int .i64 a0_2], .agg #[.int .i64 a1_0, .int .i64 a1_1], .int .i64 a1_3, .agg #[.int .i64 a1_4, .int .i64 a1_5]] rfl (by (try simp only [List.map_toArray, List.map_cons, List.map_nil]); first | done | rfl | (simp only [List.length_drop, List.length_take]; rfl)) ?_; (with_reducible refine (swashplateref07_Calm.calls kj7 a0_0 a0_1 a0_2 a1_0 a1_1 a1_3 a1_4 a1_5 t245 t246 _ A27.out).mono ?_); rintro e w52 ⟨rfl, hb⟩; refine ⟨_, rfl, ?_⟩; have n0_ := Aside0.mk (blk_below (bk_ BK230.out) hb); have n1_ := Aside0.mk (blk_below (bk_ BK231.out) hb); have n2_ := Aside0.mk (below_step (bl_ HB.out) hb); clear BK230 BK231 HB; have BK230 := n0_; have BK231 := n1_; have HB := n2_; clear n0_ n1_ n2_; (try clear hb); (try clear hb2); (try clear hk); (try clear hi)))
      go_ret
      exact ⟨by first | rfl | (simp [errW_none, errW_some] <;> rfl) | (simp [*, errW_none, errW_some] <;> rfl), bl_ HB.out⟩
 ·
  rw [if_neg c5] at H
  have c5b0 : (t232 == t233) = false := beq_eq_false_iff_ne.mpr c5
  have c5b1 : (t232 != t233) = true := bne_iff_ne.mpr c5
  obtain rfl := Option.some.inj H
  go_enter Try.func16, Try.ntmps16
  try go_wp2_with (first | ((with_reducible refine gate_dst (N := 2) rfl ?_); refine box_event ?hg (N := 2) ?hd (cs := #[.int .i64 a0_0, .int .i64 a0_1, .int .i64 a0_2]) (t := 105) ?hr ?_; (case hd => rfl); (case hg => rfl); (case hr => first | (go_simp; done) | (go_simp; rfl)); intro gb230 hg w53 hbox hb; have n0_ := Aside0.mk (below_step (bl_ HB.out) hb); have n1_ := Aside0.mk (hbox); have n2_ := Aside0.mk (szl_ hg HB.out); have n3_ := Aside0.mk (szl_ hg HB.out); clear HB; have HB := n0_; have BK230 := n1_; have GW230 := n2_; have GE230 := n3_; clear n0_ n1_ n2_ n3_ hb hbox hg) | ((with_reducible refine gate_dst (N := 3) rfl ?_); refine box_event ?hg (N := 3) ?hd (cs := #[.int .i64 a1_0, .int .i64 a1_1, .slice A1_2 l1_2.length c1_2, .int .i64 a1_3, .int .i64 a1_4, .int .i64 a1_5]) (t := 107) ?hr ?_; (case hd => rfl); (case hg => rfl); (case hr => first | (go_simp; done) | (go_simp; rfl)); intro gb231 hg w54 hbox hb; have n0_ := Aside0.mk (blk_below (bk_ BK230.out) hb); have n1_ := Aside0.mk (below_step (bl_ HB.out) hb); have n2_ := Aside0.mk (hbox); have n3_ := Aside0.mk (szl_ hg HB.out); have n4_ := Aside0.mk (szl_ hg HB.out); have n5_ := Aside0.mk (nel_ hg BK230.out); have n6_ := Aside0.mk (ner_ hg BK230.out); clear BK230 HB; have BK230 := n0_; have HB := n1_; have BK231 := n2_; have GW231 := n3_; have GE231 := n4_; have NB230_231 := n5_; have NB231_230 := n6_; clear n0_ n1_ n2_ n3_ n4_ n5_ n6_ hb hbox hg))
  have n0_ := Aside0.mk (blk_drew BK230.out)
  have n1_ := Aside0.mk (blk_drew BK231.out)
  have n2_ := Aside0.mk (below_drew1 HB.out)
  clear BK230 BK231 HB
  have BK230 := n0_
  have BK231 := n1_
  have HB := n2_
  clear n0_ n1_ n2_
  refine start_ (n := 5) (S := fun w' => w'.cell? ⟨gb230, 0, none⟩ = some (.int .i64 a0_0) ∧ w'.cell? ⟨gb230, 1, none⟩ = some (.int .i64 a0_1) ∧ w'.cell? ⟨gb230, 2, none⟩ = some (.int .i64 a0_2)) (ds := []) #[false, false, false, false, false] (by kernel_rfl) rfl rfl ⟨(blk_cell BK230.out 0).trans rfl, (blk_cell BK230.out 1).trans rfl, (blk_cell BK230.out 2).trans rfl⟩ (fun hHeld => ?_)
  generalize w54.drew = w55 at BK230 BK231 HB hHeld ⊢
  refine take_ (i := 0) (N := some 11) (v := ?_) (a' := ?_) #[true, false, false, false, false] rfl rfl (by kernel_rfl) (fun _ _ _ h => h) (Or.inl ⟨by rfl, ?_⟩) hHeld ?_ ?_
  rotate_left
  ·
   rintro w' ⟨s0, s1, s2⟩
   go_simp
   with_reducible rfl
  rotate_left
  ·
   simp only [Act.put, List.setIfInBounds_toArray, List.set_cons_zero, List.set_cons_succ, i64_w, i32_w]
   rfl
  refine take_ (i := 2) (N := some 13) (v := ?_) (a' := ?_) #[true, false, true, false, false] rfl rfl (by kernel_rfl) (fun _ _ _ h => h) (Or.inl ⟨by rfl, ?_⟩) hHeld ?_ ?_
  rotate_left
  ·
   rintro w' ⟨s0, s1, s2⟩
   go_simp
   with_reducible rfl
  rotate_left
  ·
   simp only [Act.put, List.setIfInBounds_toArray, List.set_cons_zero, List.set_cons_succ, i64_w, i32_w]
   rfl
  refine one_ (i := 1) (N := some 12) #[true, true, true, false, false] rfl rfl (by kernel_rfl) (by decide) (fun K hK => ?_)
  refine goes_ Try.func68 (by kernel_rfl) rfl #[.agg #[.int .i64 a0_0, .int .i64 a0_1, .int .i64 a0_2]] (by rfl) rfl rfl (by (try simp only [List.map_toArray, List.map_cons, List.map_nil]); first | done | rfl | (simp only [List.length_drop, List.length_take]; rfl)) ?_
  with_reducible refine (sling_Check.calls a0_0 a0_1 a0_2 t232 _ A3.out).mono ?_
  rintro e w56 ⟨rfl, hb⟩
  refine ⟨_, rfl, ?_⟩
  have n0_ := Aside0.mk (blk_below (bk_ BK230.out) hb)
  have n1_ := Aside0.mk (blk_below (bk_ BK231.out) hb)
  have n2_ := Aside0.mk (below_step (bl_ HB.out) hb)
  clear BK230 BK231 HB
  have BK230 := n0_
  have BK231 := n1_
  have HB := n2_
  clear n0_ n1_ n2_
  (try clear hb)
  (try clear hb2)
  (try clear hk)
  (try clear hi)
  refine hK.out _ _ ⟨(blk_cell BK230.out 0).trans rfl, (blk_cell BK230.out 1).trans rfl, (blk_cell BK230.out 2).trans rfl⟩ (fun hHeld => ?_)
  clear hK K
  refine norm_ (a' := ?_) ?_ ?_
  rotate_left
  ·
   show Act.put _ (some 12) _ = _
   simp only [Act.put, List.setIfInBounds_toArray, List.set_cons_zero, List.set_cons_succ, i64_w, i32_w]
   rfl
  refine one_ (i := 3) (N := some 14) #[true, true, true, true, false] rfl rfl (by kernel_rfl) (by decide) (fun K hK => ?_)
  refine goes_ Try.func69 (by kernel_rfl) rfl #[.agg #[.int .i64 a0_0, .int .i64 a0_1, .int .i64 a0_2]] (by rfl) rfl rfl (by (try simp only [List.map_toArray, List.map_cons, List.map_nil]); first | done | rfl | (simp only [List.length_drop, List.length_take]; rfl)) ?_
  with_reducible refine (swashplateref07_Check.calls a0_0 a0_1 a0_2 t233 _ A4.out).mono ?_
  rintro e w57 ⟨rfl, hb⟩
  refine ⟨_, rfl, ?_⟩
  have n0_ := Aside0.mk (blk_below (bk_ BK230.out) hb)
  have n1_ := Aside0.mk (blk_below (bk_ BK231.out) hb)
  have n2_ := Aside0.mk (below_step (bl_ HB.out) hb)
  clear BK230 BK231 HB
  have BK230 := n0_
  have BK231 := n1_
  have HB := n2_
  clear n0_ n1_ n2_
  (try clear hb)
  (try clear hb2)
  (try clear hk)
  (try clear hi)
  refine hK.out _ _ ⟨(blk_cell BK230.out 0).trans rfl, (blk_cell BK230.out 1).trans rfl, (blk_cell BK230.out 2).trans rfl⟩ (fun hHeld => ?_)
  clear hK K
  refine norm_ (a' := ?_) ?_ ?_
  rotate_left
  ·
   show Act.put _ (some 14) _ = _
   simp only [Act.put, List.setIfInBounds_toArray, List.set_cons_zero, List.set_cons_succ, i64_w, i32_w]
   rfl
  refine pure_ (i := 4) (N := some 15) (v := ?_) (a' := ?_) #[true, true, true, true, true] rfl rfl (by kernel_rfl) (fun _ _ _ h => h) (Or.inl ⟨by rfl, ?_⟩) ?_ ?_
  rotate_left
  ·
   intro w'
   go_simp
   with_reducible rfl
  rotate_left
  ·
   simp only [Act.put, List.setIfInBounds_toArray, List.set_cons_zero, List.set_cons_succ, i64_w, i32_w]
   rfl
  refine done_ (by kernel_rfl) ?_
  try go_wp2
  go_ret
  exact ⟨by first | rfl | (simp [errW_none, errW_some] <;> rfl) | (simp [*, errW_none, errW_some] <;> rfl), bl_ HB.out⟩
end Go.Proofs.Yteodlmgmmpkpoaa.PS
end
section
namespace Go.Proofs.Yteodlmgmmpkpoaa.PS
open Go.RowKit Go.Proofs.YteodlmgmmpkpoaaW.PrintWords Go.Proofs.YteodlmgmmpkpoaaW.PrintLast Go.Proofs.YteodlmgmmpkpoaaW.PrintMore
set_option linter.unusedVariables false
set_option linter.unusedSimpArgs false
theorem rsw_l1 (n m D a v : Int) (g : Nat → Int) (h1 : 1 ≤ D) (h4 : D ≤ 4) (N : Nat) (hN : N ≤ 16) : ∀ (r t : Nat), t ≤ N → N - t = r → ∀ k, 1099511627900 + r < k →
    swashplateref07_Swing.l1 k (dispL n m D ⟨a, v, 1⟩ g (N + 1)) (swingT n m D ⟨a, v, 1⟩ g t) (t + 1 : Nat) n m D = some (swingT n m D ⟨a, v, 1⟩ g N, 0) := by
  intro r
  induction r with
  | zero =>
    intro t ht hr k hk
    obtain ⟨k, rfl⟩ : ∃ j, k = j + 1 := ⟨k - 1, by omega⟩
    obtain rfl : t = N := by omega
    unfold swashplateref07_Swing.l1
    rw [disp_len, if_neg (by omega)]
  | succ r ih =>
    intro t ht hr k hk
    obtain ⟨k, rfl⟩ : ∃ j, k = j + 1 := ⟨k - 1, by omega⟩
    have hd := st_den n m D ⟨a, v, 1⟩ rfl g (t + 1)
    have hp := pw_range D h1 h4 (t + 1) (by omega)
    have hi := ih (t + 1) (by omega) (by omega) k (by omega)
    rw [swing_succ, hd] at hi
    unfold swashplateref07_Swing.l1
    rw [disp_len, if_pos (by omega), if_pos (by omega), power_total D (t + 1) (by omega) k (by omega), Option.bind_some, disp_rd _ _ _ _ _ _ _ (by omega), rlow_total _ _ (by omega) k (by omega), Option.bind_some, if_pos (by rw [swing_len]; omega),
      step64 (t + 1) (by omega)]
    exact hi
theorem rsw_l0 (n m D a v : Int) (l : List Int) (h1 : 1 ≤ D) (h4 : D ≤ 4) (hl : l.length ≤ 16) : ∀ (r t : Nat), t ≤ l.length → l.length - t = r → ∀ k, 1099511628000 + r < k →
    swashplateref07_Swing.l0 k l t n m D a v = some (if (l.drop t).all guB then (swingT n m D ⟨a, v, 1⟩ (fun i => l.getD i 0) l.length, 0) else ([], 1)) := by
  intro r
  induction r with
  | zero =>
    intro t ht hr k hk
    obtain ⟨k, rfl⟩ : ∃ j, k = j + 1 := ⟨k - 1, by omega⟩
    obtain rfl : t = l.length := by omega
    have hb := rsw_l1 n m D a v (fun i => l.getD i 0) h1 h4 l.length hl l.length 0 (by omega) (by omega) k (by omega)
    unfold swashplateref07_Swing.l0
    rw [if_neg (by omega), swung_total n m D a v l hl k (by omega), Option.bind_some, List.drop_of_length_le (Nat.le_refl _)]
    exact hb
  | succ r ih =>
    intro t ht hr k hk
    obtain ⟨k, rfl⟩ : ∃ j, k = j + 1 := ⟨k - 1, by omega⟩
    have hi := ih (t + 1) (by omega) (by omega) k (by omega)
    unfold swashplateref07_Swing.l0
    rw [if_pos (by omega), if_pos (by omega), rw7, Option.bind_some, rd_getD, step64 t (by omega), drop_stepG 0 l t (by omega), List.all_cons]
    have e : (decide (-100 ≤ l.getD t 0) && decide (l.getD t 0 ≤ 100)) = guB (l.getD t 0) := rfl
    rw [e]
    cases guB (l.getD t 0) with
    | false => rfl
    | true => rw [if_pos rfl, hi, Bool.true_and]
theorem rswing_total (n m D a v : Int) (l : List Int) (k : Nat) (hk : 1099511628100 < k) : swashplateref07_Swing.f k n m D a v l = sling_Swing.f n m D a v l := by
  unfold swashplateref07_Swing.f sling_Swing.f
  rw [rchk7, Option.bind_some]
  cases h : slB n m D with
  | false => simp
  | true =>
    have hD := h
    unfold slB at hD
    simp only [Bool.and_eq_true, decide_eq_true_eq] at hD
    rw [if_pos rfl, if_pos rfl]
    by_cases h16 : 16 < l.length
    · rw [if_pos (by omega), if_pos rfl, if_pos h16]
    · rw [if_neg (by omega), if_pos rfl, if_neg h16, rst7, Option.bind_some]
      cases stB a v with
      | false => simp
      | true =>
        rw [if_pos rfl]
        have := rsw_l0 n m D a v l hD.1.1 hD.1.2 (by omega) l.length 0 (by omega) (by omega) k (by omega)
        rw [List.drop_zero] at this
        rw [Bool.true_and]
        exact this
theorem rcalm_l0 (n m D a v lo hi : Int) (N : Nat) (hN : N ≤ 16) : ∀ (t : Nat), t ≤ N + 1 → calmT n m D ⟨a, v, 1⟩ lo hi (N + 1) = calmT n m D ⟨a, v, 1⟩ lo hi t → ∀ k, 101 + t < k →
    swashplateref07_Calm.l0 k (dispL n m D ⟨a, v, 1⟩ (fun _ => 0) (N + 1)) (if t = N + 1 then -1 else t) ((t : Int) - 1) n m D lo hi = some (if (calmT n m D ⟨a, v, 1⟩ lo hi (N + 1) : Int) > N then (0, 3) else ((calmT n m D ⟨a, v, 1⟩ lo hi (N + 1) : Int), 0)) := by
  intro t
  induction t with
  | zero =>
    intro ht e k hk
    obtain ⟨k, rfl⟩ : ∃ j, k = j + 1 := ⟨k - 1, by omega⟩
    have e0 : calmT n m D ⟨a, v, 1⟩ lo hi (N + 1) = 0 := e
    unfold swashplateref07_Calm.l0
    rw [if_neg (by omega), if_neg (show ¬ (0 = N + 1) by omega), if_neg (by omega), e0, if_neg (by omega)]
  | succ t ih =>
    intro ht e k hk
    obtain ⟨k, rfl⟩ : ∃ j, k = j + 1 := ⟨k - 1, by omega⟩
    have hd := st_den n m D ⟨a, v, 1⟩ rfl (fun _ => 0) t
    have ec : calmT n m D ⟨a, v, 1⟩ lo hi (t + 1) = if inL (stG n m D ⟨a, v, 1⟩ (fun _ => 0) t) lo hi then calmT n m D ⟨a, v, 1⟩ lo hi t else t + 1 := rfl
    rw [show ((t + 1 : Nat) : Int) - 1 = (t : Int) by omega]
    unfold swashplateref07_Calm.l0
    rw [if_pos (by omega), power_total D t (by omega) k (by omega), Option.bind_some, if_pos (by omega), disp_len, if_pos (by omega), disp_rd _ _ _ _ _ _ _ (by omega)]
    unfold inL at ec
    rw [hd] at ec
    by_cases h1 : (stG n m D ⟨a, v, 1⟩ (fun _ => 0) t).a < wrap64 (lo * pwT D t)
    · rw [if_pos h1]
      rw [decide_eq_false (show ¬ wrap64 (lo * pwT D t) ≤ (stG n m D ⟨a, v, 1⟩ (fun _ => 0) t).a by omega), Bool.false_and, if_neg (by simp)] at ec
      rw [e, ec]
      by_cases ht2 : t + 1 = N + 1
      · rw [if_pos ht2, if_pos (by omega), if_pos (by omega)]
      · rw [if_neg ht2, if_neg (by omega), if_neg (by omega)]
    · rw [if_neg h1]
      rw [decide_eq_true (show wrap64 (lo * pwT D t) ≤ (stG n m D ⟨a, v, 1⟩ (fun _ => 0) t).a by omega), Bool.true_and] at ec
      by_cases h2 : (stG n m D ⟨a, v, 1⟩ (fun _ => 0) t).a > wrap64 (hi * pwT D t)
      · rw [if_pos h2]
        rw [decide_eq_false (show ¬ (stG n m D ⟨a, v, 1⟩ (fun _ => 0) t).a ≤ wrap64 (hi * pwT D t) by omega), if_neg (by simp)] at ec
        rw [e, ec]
        by_cases ht2 : t + 1 = N + 1
        · rw [if_pos ht2, if_pos (by omega), if_pos (by omega)]
        · rw [if_neg ht2, if_neg (by omega), if_neg (by omega)]
      · rw [if_neg h2]
        rw [decide_eq_true (show (stG n m D ⟨a, v, 1⟩ (fun _ => 0) t).a ≤ wrap64 (hi * pwT D t) by omega), if_pos rfl] at ec
        have hi' := ih (by omega) (e.trans ec) k (by omega)
        rw [if_neg (show ¬ t = N + 1 by omega)] at hi'
        rw [wr64 (by omega) (by omega)]
        exact hi'
theorem getD_repl (N t : Nat) : (List.replicate N (0 : Int)).getD t 0 = 0 := by
  rw [List.getD_eq_getElem?_getD, List.getElem?_replicate]; split <;> rfl
theorem rcalm_total (n m D a v N lo hi : Int) (k : Nat) (hk : 200 < k) : swashplateref07_Calm.f k n m D a v N lo hi = sling_Calm.f n m D a v N lo hi := by
  obtain ⟨k, rfl⟩ : ∃ j, k = j + 1 := ⟨k - 1, by omega⟩
  unfold swashplateref07_Calm.f sling_Calm.f
  rw [rchk7, Option.bind_some]
  cases h : slB n m D with
  | false => simp
  | true =>
    rw [if_pos rfl, if_pos rfl, if_pos rfl, rvalid_total, Option.bind_some]
    cases okS lo hi with
    | false => simp
    | true =>
      rw [if_pos rfl, if_pos rfl, rst7, Option.bind_some]
      cases stB a v with
      | false =>
        rw [if_neg (by simp), Bool.false_and, if_neg (by simp)]
        rw [swashplateref07_Calm.j0]
        rw [if_pos rfl]
      | true =>
        rw [if_pos rfl, rw7, Option.bind_some, Bool.true_and]
        have e : (decide (0 ≤ N) && decide (N ≤ 16)) = nB N := rfl
        rw [e]
        cases hn : nB N with
        | false =>
          rw [swashplateref07_Calm.j0]
          rfl
        | true =>
          unfold nB at hn
          simp only [Bool.and_eq_true, decide_eq_true_eq] at hn
          obtain ⟨T, rfl⟩ : ∃ T : Nat, N = T := ⟨N.toNat, by omega⟩
          rw [swashplateref07_Calm.j0]
          rw [if_neg (by simp), if_pos (by omega), if_pos (by omega), Int.toNat_natCast, swung_total n m D a v _ (by simp; omega) k (by omega), Option.bind_some, List.length_replicate]
          have hg : (fun i => (List.replicate T (0 : Int)).getD i 0) = fun _ => 0 := funext (getD_repl T)
          rw [hg]
          have := rcalm_l0 n m D a v lo hi T (by omega) (T + 1) (Nat.le_refl _) rfl k (by omega)
          rw [if_pos rfl, show ((T + 1 : Nat) : Int) - 1 = (T : Int) by omega] at this
          rw [this]; rfl
theorem sameF_loop (l : List S28) (hl : l.length ≤ 1000) : ∀ (r i : Nat), i ≤ l.length → l.length - i = r → ∀ k, r < k → swashplatelaw07_sameFractions.l0 k l l i = some true := by
  intro r
  induction r with
  | zero =>
    intro i hi hr k hk
    obtain ⟨k, rfl⟩ : ∃ j, k = j + 1 := ⟨k - 1, by omega⟩
    unfold swashplatelaw07_sameFractions.l0
    rw [if_neg (by omega)]
  | succ r ih =>
    intro i hi hr k hk
    obtain ⟨k, rfl⟩ : ∃ j, k = j + 1 := ⟨k - 1, by omega⟩
    unfold swashplatelaw07_sameFractions.l0
    rw [if_pos (by omega), if_pos (by omega), if_pos (by omega), if_neg (by simp), step64 i (by omega)]
    exact ih (i + 1) (by omega) (by omega) k (by omega)
theorem sameF_total (l : List S28) (hl : l.length ≤ 1000) (k : Nat) (hk : 1000 < k) : swashplatelaw07_sameFractions.f k l l = some true := by
  unfold swashplatelaw07_sameFractions.f
  rw [if_pos rfl]
  exact sameF_loop l hl l.length 0 (by omega) (by omega) k (by omega)
theorem swing_ex : sling_Swing.f 1 1 2 1 1 [0, 1] = some ([⟨1, 1⟩, ⟨3, 2⟩], 0) := by kernel_rfl
theorem works7_total (k : Nat) (hk : 1000 < k) : swashplatelaw07_works.f k = some true := by
  unfold swashplatelaw07_works.f
  rw [swing_ex, Option.bind_some]
  unfold swashplatelaw07_Example.f
  rw [Option.bind_some]
  unfold sling_Deepest.f
  rw [if_pos (by simp), Option.bind_some, if_pos rfl, if_pos rfl, if_pos rfl, sameF_total _ (by simp) k hk]
  rfl
theorem swing_small (n m D a v : Int) (l : List Int) : ∃ r : List S28 × Int, sling_Swing.f n m D a v l = some r ∧ r.1.length ≤ 16 := by
  refine ⟨_, rfl, ?_⟩
  split
  · split
    · simp
    · split
      · rw [swing_len]; omega
      · simp
  · simp
theorem swings_at (n m D a v : Int) (l : List Int) (N lo hi : Int) (k : Nat) (hk : 1099511628200 < k) : swashplatelaw07_SlingSwings.f k n m D a v l N lo hi = some true := by
  unfold swashplatelaw07_SlingSwings.f
  obtain ⟨k, rfl⟩ : ∃ j, k = j + 1 := ⟨k - 1, by omega⟩
  rw [schk7, rchk7, Option.bind_some, Option.bind_some, if_pos rfl, rswing_total n m D a v l (k + 1) (by omega)]
  obtain ⟨r, hr, hs⟩ := swing_small n m D a v l
  rw [hr, Option.bind_some, Option.bind_some, if_pos rfl, sameF_total _ (by omega) _ (by omega), Option.bind_some]
  rw [swashplatelaw07_SlingSwings.j0]
  rw [if_neg (by simp), rcalm_total n m D a v N lo hi k (by omega)]
  obtain ⟨q, hq⟩ : ∃ q : Int × Int, sling_Calm.f n m D a v N lo hi = some q := ⟨_, rfl⟩
  rw [hq, Option.bind_some, Option.bind_some, if_pos rfl, if_pos rfl, works7_total k (by omega)]
  rfl
theorem swings_true (n m D a v : Int) (l : List Int) (N lo hi : Int) : ∃ k, swashplatelaw07_SlingSwings.f k n m D a v l N lo hi = some true := ⟨1099511628201, swings_at n m D a v l N lo hi _ (by omega)⟩
end Go.Proofs.Yteodlmgmmpkpoaa.PS
end
section
namespace Go.Proofs.Yteodlmgmmpkpoaa.PS
open Go.RowKit Go.Deep Go.ChangeShapes Go.WideShapes Go.ChangeAt Go.Proofs.YteodlmgmmpkpoaaW.PrintWords
set_option linter.unusedVariables false
set_option maxRecDepth 100000 in
theorem liftedSlingSwings (os : Os) (started : os.Started) (H : Type) (enc : TypeId × Value → H) :
    ReturnsInHanded {} Try.checked os 16 .any (Rows.slingSwingsSpec.pre6 enc Try.prog Try.f16 Rows.slingSwingsRow.domain false) (Rows.slingSwingsSpec.post enc Try.prog Try.f16 false true false false) := by
  refine returnsInHanded_of_change (C := Try.checked) ownNone started (by kernel_rfl) Try.func16
    (ChangeSpec.witness6 (enc := enc) (C := Try.checked) false ⟨#[], #[.agg #[.int .i64 0, .int .i64 0, .int .i64 0], .agg #[.int .i64 0, .int .i64 0, .slice none 0 0, .int .i64 0, .int .i64 0, .int .i64 0]], []⟩ 8 (by kernel_rfl) (by kernel_rfl) (by kernel_rfl) (by kernel_rfl)) ?_
  intro W base args ds gs before hval0 hW hcnd _
  have hval : ∀ (j : Nat) t v, Try.f16.params[j]? = some t → args[j]? = some v → Value.okWide Try.prog W .any base t v := hval0
  have hW' := hW
  obtain ⟨p, q, hA0, hV, rfl, hfz, hnd⟩ := hW
  have hA : DataW.TrodAll enc Try.prog W 0 (fun _ => true) true Try.f16.params.toList args.toList ds p := hA0
  rw [Try.params16] at hA hval
  obtain ⟨v0, vs0, d0, ds0, p0, q0, hargs, rfl, rfl, h0, r0⟩ := trodAll_cons hA
  obtain ⟨v1, vs1, d1, ds1, p1, q1, rfl, rfl, rfl, h1, r1⟩ := trodAll_cons r0
  obtain ⟨rfl, rfl, rfl⟩ := trodAll_nil r1
  obtain rfl : args = #[v0, v1] := by cases args; simp_all
  obtain ⟨rfl, rfl⟩ := trodVars_none hV
  have k0 := h0
  have lt0 : ∀ x ∈ p0, x.block < W.heap.size := by obtain ⟨m, hm⟩ := k0; exact DataW.trod_lt m _ _ _ hm
  have k1 := h1
  have lt1 : ∀ x ∈ p1, x.block < W.heap.size := by obtain ⟨m, hm⟩ := k1; exact DataW.trod_lt m _ _ _ hm
  obtain ⟨n0, m0, D0, rfl⟩ := arg105 (hval 0 105 v0 rfl rfl) h0
  obtain ⟨a1, b1, A1, c1, l1, N1, lo1, hi1, rfl, o11, o12⟩ := arg107 (hval 1 107 v1 rfl rfl) h1
  clear hA0 hval0
  obtain ⟨kf, hkf⟩ := swings_true n0 m0 D0 a1 b1 l1 N1 lo1 hi1
  refine (swashplatelaw07_SlingSwings.calls kf n0 m0 D0 a1 b1 A1 c1 l1 N1 lo1 hi1 true W o12 o11 hkf).mono fun e W' ⟨he, bel⟩ => ?_
  subst he
  exact ⟨_, rfl, _, _, _, [], _, [], hW', trodAll_mk1 (shut_bool Try.underlying4 _), (trodAll_cons_mk (Below.trod laidOut (by kernel_rfl) (of_decide_eq_true (by kernel_rfl)) k0 bel lt0) (trodAll_cons_mk (Below.trod laidOut (by kernel_rfl) (of_decide_eq_true (by kernel_rfl)) k1 bel lt1) trodAll_mk0)), rfl, bel.frame _, fun h => by cases h⟩
theorem factsSlingSwings : joinedFacts Try.prog 16 Try.f16 Rows.slingSwingsSpec Rows.slingSwingsRow = true := by
  have fk : (Rows.slingSwingsRow.plainKeys == Try.prog.plainKeys) = true := factKeys
  have fl : (Rows.slingSwingsRow.lifted == Try.prog.liftsFinal) = true := factLifted
  have fm : (Try.prog.make == some Rows.slingSwingsRow.make) = true := factMake
  unfold joinedFacts
  repeat' (with_reducible refine Bool.and_eq_true_iff.2 ⟨?_, ?_⟩)
  all_goals first | (with_reducible exact fk) | (with_reducible exact factHeard) | (with_reducible exact factEnter) | (with_reducible exact fl) | (with_reducible exact fm) | kernel_rfl
theorem overSlingSwings : Rows.slingSwingsRow.holds Try.pinned (OpenSpec.ofChange Rows.slingSwingsSpec) :=
  OpenClaim.holds_of_wide 16 Try.f16 rfl rfl rfl rfl rfl rfl rfl ⟨rfl, rfl, rfl, rfl, rfl⟩ rfl rfl rfl rfl rfl (by kernel_rfl) Try.func16 factsSlingSwings
    (of_decide_eq_true (by kernel_rfl)) (by unfold Func.isWrapper; first | (rw [if_pos (by decide +kernel)]; kernel_rfl) | (rw [if_neg (by decide +kernel)]; exact ⟨rfl, rfl⟩))
    (fun os started H enc _ => liftedSlingSwings os started H enc)
theorem slingSwingsProved : Rows.SlingSwingsSaid := overSlingSwings
#print axioms slingSwingsProved
end Go.Proofs.Yteodlmgmmpkpoaa.PS
end
