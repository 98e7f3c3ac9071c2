-- Printed by a program of this session out of the translation (hybrid print) and out of hand proofs. Not trusted: Lean checks it.
import Derived.Below
import Derived.Deep.Draws
import Derived.Deep.AppendLies
import Derived.Maps.AppendAt
import Derived.OwnWalk
import Derived.Laws.BytesArg
import Derived.Laws.MakeOwn
import Derived.Laws.OwnMore
import Derived.Deep.OwnRows
import Derived.Tactics
import Derived.Lib.ConvBytes
import Derived.Laws.Slices
import Derived.WalkKit
import Derived.KernelRfl
import Derived.RowKit3
import Derived.Deep.LoopGhost
import Derived.Deep.QuietTactic
import Derived.BigQuiet
import Derived.WideLaws
import Derived.Deep.DeepCutAuto
import Derived.Deep.CutBlock
import Derived.Deep.RegionHeld3
import Derived.Laws.Rows
import Derived.Lib.AppendStr
import Derived.ArgAppend
import Derived.Laws.IdiomCopy
import Derived.RowKit
import Derived.OrdersHeld
import Derived.Laws.BitsLemmas
import Derived.Laws.StructEq
import Derived.Test.YteodlmgmmpkpoaaProg
import Derived.Laws.EntriesVeiled
import Derived.StillTailTactics
import Derived.RangeFuncNested
import Derived.RangeFuncBound
import Derived.RangeFuncCalls
import Derived.RangeFuncLeaves
import Derived.Shelf.Abstract
import Derived.OwnWalkIn
import Derived.TacticsInMore
import Derived.LoopNIn
import Derived.LoopIn
import Derived.RegionIn
import Derived.Deep.Strs
import Derived.Deep.Slices
import Derived.OpenShut
import Derived.ProofKit
import Derived.Carry
import Derived.Test.YteodlmgmmpkpoaaRows
import Derived.Lib.SmallJoins
import Derived.Test.YteodlmgmmpkpoaaSR2
section
namespace Go.Proofs.Yteodlmgmmpkpoaa.PS
open Go.RowKit Go.Proofs.YteodlmgmmpkpoaaW.PrintWords Go.Proofs.YteodlmgmmpkpoaaW.PrintLast Go.Proofs.YteodlmgmmpkpoaaW.PrintMore
set_option linter.unusedVariables false
set_option linter.unusedSimpArgs false
def carB (X Y : List Int) (V : List (List Int)) (lo hi u0 u1 wgt : Int) : Bool := decide ((boundR X Y V lo hi u0 u1).2.2 = 0) && decide (wgt ≤ (boundR X Y V lo hi u0 u1).1)
def winch_carries.T3 : Bool × List (List Nat × List Nat) := (true, [([], []), ([0], [0]), ([1], [1]), ([2], [2]), ([3], [3]), ([], []), ([], []), ([6], [6]), ([7], [7]), ([8], [8]), ([4, 5, 9], [4, 5, 9]), ([10], [10]), ([11], [11]), ([11], [11]), ([], []), ([14, 12, 10, 0, 1, 2, 3, 4, 5, 6, 7, 8, 9, 10, 11, 12, 14], [12, 14]), ([13, 15, 0, 1, 2, 3, 4, 5, 6, 7, 8, 9, 10, 11, 12, 13, 14, 15], [13])])
def winch_carries.B3 : List Nat := [0, 1, 3, 7, 15, 0, 0, 64, 192, 448, 1023, 2047, 4095, 4095, 0, 24575, 65535]
theorem winch_carries.tab3 : rtab .any (opsOf Try.f116 3) = winch_carries.T3 := by kernel_rfl
theorem winch_carries.bits3 : waitsOk winch_carries.T3.2 winch_carries.B3 = true := by kernel_rfl
set_option maxRecDepth 100000 in
set_option maxHeartbeats 4000000 in
theorem winch_carries (g : Nat) (cab : Int) (A0 : Option Addr) (c0 : Nat) (X : List Int) (A1 : Option Addr) (c1 : Nat) (Y : List Int) (A2 : Option Addr) (c2 : Nat) (V : List (List Int)) (chg u0 u1 len wt since cyc : Int) (cut touched : Bool) (lo hi wgt : Int) (w : World)
    (hr0 : Kd.C (Kd.int .i64) w A0 X.length X) (hc0 : X.length ≤ c0) (hr1 : Kd.C (Kd.int .i64) w A1 Y.length Y) (hc1 : Y.length ≤ c1) (hr2 : Kd.C (Kd.slice 3 (Kd.int .i64)) w A2 V.length V) (hc2 : V.length ≤ c2)
    (hg : w.heap[g]? = some (.cells (wiC cab A0 X.length c0 A1 Y.length c1 A2 V.length c2 chg u0 u1 len wt since cyc cut touched) 160 (0, 0))) (hw : wgt ≠ 0) :
    Calls Try.prog 116 #[.pointer (some ⟨g, 0, none⟩), .agg #[.int .i64 lo, .int .i64 hi], .int .i64 wgt] w fun e w' => e = .returned (.bool (carB X Y V lo hi u0 u1 wgt)) ∧ Below w.heap.size w w' := by
  replace hg : w.heap[g]? = some (.cells #[.int .i64 cab, .slice A0 X.length c0, .slice A1 Y.length c1, .slice A2 V.length c2, .int .i64 chg, .int .i64 u0, .int .i64 u1, .int .i64 len, .int .i64 wt, .int .i64 since, .int .i64 cyc, .bool cut, .bool touched] 160 (0, 0)) := hg
  have BKg := Aside0.mk hg
  have hz : (wgt == 0) = false := by simpa using hw
  obtain ⟨⟨b0, b1, be⟩, hbr⟩ : ∃ r, boundR X Y V lo hi u0 u1 = r := ⟨_, rfl⟩
  have hbt := bound_total X Y V lo hi u0 u1
  rw [hbr] at hbt
  have HBd := Aside0.mk hbt
  unfold carB
  rw [hbr]
  show Calls Try.prog 116 #[.pointer (some ⟨g, 0, none⟩), .agg #[.int .i64 lo, .int .i64 hi], .int .i64 wgt] w fun e w' => e = .returned (.bool (decide (be = 0) && decide (wgt ≤ b0))) ∧ Below w.heap.size w w'
  have HR0 := Aside0.mk hr0
  have HR1 := Aside0.mk hr1
  have HR2 := Aside0.mk hr2
  clear hr0 hr1 hr2 hg hbr hbt hw
  have HB := Aside0.mk (Below.refl w.heap.size w)
  go_enter Try.func116, Try.ntmps116
  go_wp2_with (first | ((with_reducible refine gate_dst (N := 4) rfl ?_); refine box_event ?hg (N := 4) ?hd (cs := #[.int .i64 lo, .int .i64 hi]) (t := 27) ?hr ?_; (case hd => rfl); (case hg => rfl); (case hr => first | (go_simp; done) | (go_simp; rfl)); intro gb hg w1 hbox hb; have n0_ := Aside0.mk (below_step HB.out hb); have x0_ := Aside0.mk (hbox); have x1_ := Aside0.mk ((by rw [hg]; exact HB.out.size : w.heap.size ≤ gb)); clear HB; have HB := n0_; clear n0_; have m_ := Aside0.mk (blk_below BKg.out hb); clear BKg; have BKg := m_; clear m_; have BKgb := x0_; clear x0_; have GEgb := x1_; clear x1_; clear hb hbox hg; skip))
  refine start_ (n := 17) (S := fun w' => w'.cell? ⟨g, 1, none⟩ = some (.slice A0 X.length c0) ∧ w'.cell? ⟨g, 2, none⟩ = some (.slice A1 Y.length c1) ∧ w'.cell? ⟨g, 3, none⟩ = some (.slice A2 V.length c2) ∧ w'.cell? ⟨g, 5, none⟩ = some (.int .i64 u0) ∧ w'.cell? ⟨g, 6, none⟩ = some (.int .i64 u1) ∧ w'.cell? ⟨gb, 0, none⟩ = some (.int .i64 lo) ∧ w'.cell? ⟨gb, 1, none⟩ = some (.int .i64 hi)) (ds := [15]) #[false, false, false, false, false, false, false, false, false, false, false, false, false, false, false, false, false] (by kernel_rfl) rfl rfl ⟨(blk_cell BKg.out 1).trans rfl, (blk_cell BKg.out 2).trans rfl, (blk_cell BKg.out 3).trans rfl, (blk_cell BKg.out 5).trans rfl, (blk_cell BKg.out 6).trans rfl, (blk_cell BKgb.out 0).trans rfl, (blk_cell BKgb.out 1).trans rfl⟩ (fun hHeld => ?_)
  refine with_tabW winch_carries.tab3 winch_carries.bits3 (fun HT_ HW_ => ?_)
  have hkg := blk_drew BKg.out
  have hkb := blk_drew BKgb.out
  have hbb := below_drew1 HB.out
  generalize w1.drew = wz at hkg hkb hbb hHeld ⊢
  clear BKg BKgb HB
  have BKg := Aside0.mk hkg
  have BKgb := Aside0.mk hkb
  have HB := Aside0.mk hbb
  clear hkg hkb hbb
  refine pure_ (i := 0) (N := some 12) (v := ?_) (a' := ?_) #[true, false, false, false, false, false, false, false, false, false, false, false, false, false, false, false, false] rfl rfl (any_of HT_.out (by kernel_rfl)) (fun _ _ _ h => h) (Or.inl ⟨by rfl, ?_⟩) ?_ ?_
  rotate_left
  · intro w'
    go_simp
    with_reducible rfl
  rotate_left
  · simp only [Act.put, List.setIfInBounds_toArray, List.set_cons_zero, List.set_cons_succ, i64_w, i32_w]
    rfl
  refine pure_ (i := 1) (N := some 13) (v := ?_) (a' := ?_) #[true, true, false, false, false, false, false, false, false, false, false, false, false, false, false, false, false] rfl rfl (any_of HT_.out (by kernel_rfl)) (fun _ _ _ h => h) (Or.inl ⟨by rfl, ?_⟩) ?_ ?_
  rotate_left
  · intro w'
    go_simp
    with_reducible rfl
  rotate_left
  · simp only [Act.put, List.setIfInBounds_toArray, List.set_cons_zero, List.set_cons_succ, i64_w, i32_w]
    rfl
  refine pure_ (i := 2) (N := some 14) (v := ?_) (a' := ?_) #[true, true, true, false, false, false, false, false, false, false, false, false, false, false, false, false, false] rfl rfl (any_of HT_.out (by kernel_rfl)) (fun _ _ _ h => h) (Or.inl ⟨by rfl, ?_⟩) ?_ ?_
  rotate_left
  · intro w'
    go_simp
    with_reducible rfl
  rotate_left
  · simp only [Act.put, List.setIfInBounds_toArray, List.set_cons_zero, List.set_cons_succ, i64_w, i32_w]
    rfl
  refine pure_ (i := 3) (N := some 15) (v := ?_) (a' := ?_) #[true, true, true, true, false, false, false, false, false, false, false, false, false, false, false, false, false] rfl rfl (any_of HT_.out (by kernel_rfl)) (fun _ _ _ h => h) (Or.inl ⟨by rfl, ?_⟩) ?_ ?_
  rotate_left
  · intro w'
    go_simp
    with_reducible rfl
  rotate_left
  · simp only [Act.put, List.setIfInBounds_toArray, List.set_cons_zero, List.set_cons_succ, i64_w, i32_w]
    rfl
  refine take_ (i := 4) (N := some 16) (v := ?_) (a' := ?_) #[true, true, true, true, true, false, false, false, false, false, false, false, false, false, false, false, false] rfl rfl (take_ofW HT_.out HW_.out (by kernel_rfl)) (fun _ _ _ h => h) (Or.inl ⟨by rfl, ?_⟩) hHeld ?_ ?_
  rotate_left
  · rintro w' ⟨s0, s1, s2, s3, s4, s5, s6⟩
    go_simp
    with_reducible rfl
  rotate_left
  · simp only [Act.put, List.setIfInBounds_toArray, List.set_cons_zero, List.set_cons_succ, i64_w, i32_w]
    rfl
  refine take_ (i := 5) (N := some 17) (v := ?_) (a' := ?_) #[true, true, true, true, true, true, false, false, false, false, false, false, false, false, false, false, false] rfl rfl (take_ofW HT_.out HW_.out (by kernel_rfl)) (fun _ _ _ h => h) (Or.inl ⟨by rfl, ?_⟩) hHeld ?_ ?_
  rotate_left
  · rintro w' ⟨s0, s1, s2, s3, s4, s5, s6⟩
    go_simp
    with_reducible rfl
  rotate_left
  · simp only [Act.put, List.setIfInBounds_toArray, List.set_cons_zero, List.set_cons_succ, i64_w, i32_w]
    rfl
  refine pure_ (i := 6) (N := some 18) (v := ?_) (a' := ?_) #[true, true, true, true, true, true, true, false, false, false, false, false, false, false, false, false, false] rfl rfl (any_of HT_.out (by kernel_rfl)) (fun _ _ _ h => h) (Or.inl ⟨by rfl, ?_⟩) ?_ ?_
  rotate_left
  · intro w'
    go_simp
    with_reducible rfl
  rotate_left
  · simp only [Act.put, List.setIfInBounds_toArray, List.set_cons_zero, List.set_cons_succ, i64_w, i32_w]
    rfl
  refine pure_ (i := 7) (N := some 19) (v := ?_) (a' := ?_) #[true, true, true, true, true, true, true, true, false, false, false, false, false, false, false, false, false] rfl rfl (any_of HT_.out (by kernel_rfl)) (fun _ _ _ h => h) (Or.inl ⟨by rfl, ?_⟩) ?_ ?_
  rotate_left
  · intro w'
    go_simp
    with_reducible rfl
  rotate_left
  · simp only [Act.put, List.setIfInBounds_toArray, List.set_cons_zero, List.set_cons_succ, i64_w, i32_w]
    rfl
  refine pure_ (i := 8) (N := some 20) (v := ?_) (a' := ?_) #[true, true, true, true, true, true, true, true, true, false, false, false, false, false, false, false, false] rfl rfl (any_of HT_.out (by kernel_rfl)) (fun _ _ _ h => h) (Or.inl ⟨by rfl, ?_⟩) ?_ ?_
  rotate_left
  · intro w'
    go_simp
    with_reducible rfl
  rotate_left
  · simp only [Act.put, List.setIfInBounds_toArray, List.set_cons_zero, List.set_cons_succ, i64_w, i32_w]
    rfl
  refine take_ (i := 9) (N := some 21) (v := ?_) (a' := ?_) #[true, true, true, true, true, true, true, true, true, true, false, false, false, false, false, false, false] rfl rfl (take_ofW HT_.out HW_.out (by kernel_rfl)) (fun _ _ _ h => h) (Or.inl ⟨by rfl, ?_⟩) hHeld ?_ ?_
  rotate_left
  · rintro w' ⟨s0, s1, s2, s3, s4, s5, s6⟩
    go_simp
    with_reducible rfl
  rotate_left
  · simp only [Act.put, List.setIfInBounds_toArray, List.set_cons_zero, List.set_cons_succ, i64_w, i32_w]
    rfl
  refine two_ (i := 10) (j := 14) (Ni := some 22) (Nj := some 7) #[true, true, true, true, true, true, true, true, true, true, true, false, false, false, false, false, false] #[true, true, true, true, true, true, true, true, true, true, false, false, false, false, true, false, false] rfl rfl rfl rfl (two_of HT_.out (by kernel_rfl)) (by decide) (by decide) (fun K hK => ?_) (fun K hK => ?_)
  · skip
    refine goes_ Try.func30 (by kernel_rfl) rfl #[.agg #[.slice A0 X.length c0, .slice A1 Y.length c1, .slice A2 V.length c2], .agg #[.int .i64 lo, .int .i64 hi], .agg #[.int .i64 u0, .int .i64 u1]] (by rfl) rfl rfl (by (try simp only [List.map_toArray, List.map_cons, List.map_nil]); first | done | rfl | (simp only [List.length_drop, List.length_take]; rfl)) ?_
    with_reducible refine (spans_Bound.calls _ _ X _ _ Y _ _ V lo hi u0 u1 b0 b1 be _ ?k0 hc0 ?k1 hc1 ?k2 hc2 HBd.out).mono ?_
    (case k0 => exact Kd.C_below HR0.out HB.out)
    (case k1 => exact Kd.C_below HR1.out HB.out)
    (case k2 => exact Kd.C_below HR2.out HB.out)
    rintro e we ⟨rfl, hb⟩
    refine ⟨_, rfl, ?_⟩
    have n0_ := Aside0.mk (below_step HB.out hb)
    have n1_ := Aside0.mk (blk_below BKg.out hb)
    have n2_ := Aside0.mk (blk_below BKgb.out hb)
    clear HB BKg BKgb 
    have HB := n0_
    have BKg := n1_
    have BKgb := n2_
    clear n0_ n1_ n2_  hb
    refine hK.out _ _ ⟨(blk_cell BKg.out 1).trans rfl, (blk_cell BKg.out 2).trans rfl, (blk_cell BKg.out 3).trans rfl, (blk_cell BKg.out 5).trans rfl, (blk_cell BKg.out 6).trans rfl, (blk_cell BKgb.out 0).trans rfl, (blk_cell BKgb.out 1).trans rfl⟩ (fun hHeld => ?_)
    clear hK K
    refine norm_ (a' := ?_) ?_ ?_
    rotate_left
    · show Act.put _ (some 22) _ = _
      simp only [Act.put, List.setIfInBounds_toArray, List.set_cons_zero, List.set_cons_succ, i64_w, i32_w]
      rfl
    refine pure_ (i := 11) (N := some 11) (v := ?_) (a' := ?_) #[true, true, true, true, true, true, true, true, true, true, true, true, false, false, false, false, false] rfl rfl (any_of HT_.out (by kernel_rfl)) (fun _ _ _ h => h) (Or.inl ⟨by rfl, ?_⟩) ?_ ?_
    rotate_left
    · intro w'
      go_simp
      with_reducible rfl
    rotate_left
    · simp only [Act.put, List.setIfInBounds_toArray, List.set_cons_zero, List.set_cons_succ, i64_w, i32_w]
      rfl
    refine pure_ (i := 12) (N := some 23) (v := ?_) (a' := ?_) #[true, true, true, true, true, true, true, true, true, true, true, true, true, false, false, false, false] rfl rfl (any_of HT_.out (by kernel_rfl)) (fun _ _ _ h => h) (Or.inl ⟨by rfl, ?_⟩) ?_ ?_
    rotate_left
    · intro w'
      go_simp
      with_reducible rfl
    rotate_left
    · simp only [Act.put, List.setIfInBounds_toArray, List.set_cons_zero, List.set_cons_succ, i64_w, i32_w]
      rfl
    refine pure_ (i := 13) (N := some 24) (v := ?_) (a' := ?_) #[true, true, true, true, true, true, true, true, true, true, true, true, true, true, false, false, false] rfl rfl (any_of HT_.out (by kernel_rfl)) (fun _ _ _ h => h) (Or.inl ⟨by rfl, ?_⟩) ?_ ?_
    rotate_left
    · intro w'
      go_simp
      with_reducible rfl
    rotate_left
    · simp only [Act.put, List.setIfInBounds_toArray, List.set_cons_zero, List.set_cons_succ, i64_w, i32_w]
      rfl
    refine one_ (i := 14) (N := some 7) #[true, true, true, true, true, true, true, true, true, true, true, true, true, true, true, false, false] rfl rfl (one_of HT_.out (by kernel_rfl)) (by decide) (fun K hK => ?_)
    refine box_step ?hg (N := 7) ?hd (cs := #[.int .i64 0, .int .i64 0]) (t := 27) ?hr ?_; (case hd => rfl); (case hg => rfl); (case hr => first | (go_simp; done) | (go_simp; rfl))
    intro gq hg wf hbox hb
    have n0_ := Aside0.mk (below_step HB.out hb)
    have n1_ := Aside0.mk (blk_below BKg.out hb)
    have n2_ := Aside0.mk (blk_below BKgb.out hb)
    have BKq := Aside0.mk hbox
    have GEq : Aside0 (w.heap.size ≤ gq) := ⟨by rw [hg]; exact HB.out.size⟩
    clear HB BKg BKgb
    have HB := n0_
    have BKg := n1_
    have BKgb := n2_
    clear n0_ n1_ n2_ hb hbox hg
    refine hK.out _ _ ⟨(blk_cell BKg.out 1).trans rfl, (blk_cell BKg.out 2).trans rfl, (blk_cell BKg.out 3).trans rfl, (blk_cell BKg.out 5).trans rfl, (blk_cell BKg.out 6).trans rfl, (blk_cell BKgb.out 0).trans rfl, (blk_cell BKgb.out 1).trans rfl⟩ (fun hHeld => ?_)
    clear hK K
    refine norm_ (a' := ?_) ?_ ?_
    rotate_left
    · show Act.put _ (some 7) _ = _
      simp only [Act.put, List.setIfInBounds_toArray, List.set_cons_zero, List.set_cons_succ, i64_w, i32_w]
      rfl
    have z0 := (blk_cell BKq.out 0).trans rfl
    have z1 := (blk_cell BKq.out 1).trans rfl
    have f0 := blk_frozen BKq.out 0
    have f1 := blk_frozen BKq.out 1
    refine last_ (i := 15) (N := none) #[true, true, true, true, true, true, true, true, true, true, true, true, true, true, true, true, false] rfl rfl (one_of HT_.out (by kernel_rfl)) (by decide) (fun K hK => ?_)
    refine skip_ (w1 := ?_) (by rfl) rfl ?_ ?_
    rotate_left
    · go_simp
      rfl
    refine hK.out _ _ ?_
    clear hK K
    have n0_ := Aside0.mk (below_set (j := 1) (v := .int .i64 b1) (below_set (j := 0) (v := .int .i64 b0) HB.out GEq.out) GEq.out)
    have n1_ := Aside0.mk (blk_put (cs := #[.int .i64 b0, .int .i64 0]) (blk_put (cs := #[.int .i64 0, .int .i64 0]) BKq.out 0 (.int .i64 b0) rfl) 1 (.int .i64 b1) rfl)
    clear z0 z1 f0 f1 HB BKq
    have HB := n0_
    have BKq := n1_
    clear n0_ n1_
    refine pure_ (i := 16) (N := some 8) (v := ?_) (a' := ?_) #[true, true, true, true, true, true, true, true, true, true, true, true, true, true, true, true, true] rfl rfl (any_of HT_.out (by kernel_rfl)) (fun _ _ _ h => h) (Or.inl ⟨by rfl, ?_⟩) ?_ ?_
    rotate_left
    · intro w'
      go_simp
      with_reducible rfl
    rotate_left
    · simp only [Act.put, List.setIfInBounds_toArray, List.set_cons_zero, List.set_cons_succ, i64_w, i32_w]
      rfl
    refine done_ (done_of HT_.out (by kernel_rfl)) ?_
    obtain ⟨wy, hwy⟩ : ∃ wy, (wf.setCell ⟨gq, 0, none⟩ (.int .i64 b0)).setCell ⟨gq, 1, none⟩ (.int .i64 b1) = wy := ⟨_, rfl⟩
    rw [hwy] at HB BKq ⊢
    clear hwy
    have z0 : wy.cell? ⟨gq, 0, none⟩ = some (.int .i64 b0) := (blk_cell BKq.out 0).trans rfl
    by_cases hbe : be = 0
    · have hb0 : (be == 0) = true := by simpa using hbe
      have HD : Aside0 (decide (be = 0) = true) := ⟨decide_eq_true hbe⟩
      clear hbe
      go_wp2
      go_ret
      exact ⟨by rw [HD.out, Bool.true_and]; first | rfl | simp, HB.out⟩
    · have hb0 : (be == 0) = false := by simpa using hbe
      have HD : Aside0 (decide (be = 0) = false) := ⟨decide_eq_false hbe⟩
      clear hbe
      go_wp2
      go_ret
      exact ⟨by rw [HD.out, Bool.false_and]; first | rfl | simp, HB.out⟩
  · skip
    refine box_step ?hg (N := 7) ?hd (cs := #[.int .i64 0, .int .i64 0]) (t := 27) ?hr ?_; (case hd => rfl); (case hg => rfl); (case hr => first | (go_simp; done) | (go_simp; rfl))
    intro gq hg we hbox hb
    have n0_ := Aside0.mk (below_step HB.out hb)
    have n1_ := Aside0.mk (blk_below BKg.out hb)
    have n2_ := Aside0.mk (blk_below BKgb.out hb)
    have BKq := Aside0.mk hbox
    have GEq : Aside0 (w.heap.size ≤ gq) := ⟨by rw [hg]; exact HB.out.size⟩
    clear HB BKg BKgb
    have HB := n0_
    have BKg := n1_
    have BKgb := n2_
    clear n0_ n1_ n2_ hb hbox hg
    refine hK.out _ _ ⟨(blk_cell BKg.out 1).trans rfl, (blk_cell BKg.out 2).trans rfl, (blk_cell BKg.out 3).trans rfl, (blk_cell BKg.out 5).trans rfl, (blk_cell BKg.out 6).trans rfl, (blk_cell BKgb.out 0).trans rfl, (blk_cell BKgb.out 1).trans rfl⟩ (fun hHeld => ?_)
    clear hK K
    refine norm_ (a' := ?_) ?_ ?_
    rotate_left
    · show Act.put _ (some 7) _ = _
      simp only [Act.put, List.setIfInBounds_toArray, List.set_cons_zero, List.set_cons_succ, i64_w, i32_w]
      rfl
    refine one_ (i := 10) (N := some 22) #[true, true, true, true, true, true, true, true, true, true, true, false, false, false, true, false, false] rfl rfl (one_of HT_.out (by kernel_rfl)) (by decide) (fun K hK => ?_)
    refine goes_ Try.func30 (by kernel_rfl) rfl #[.agg #[.slice A0 X.length c0, .slice A1 Y.length c1, .slice A2 V.length c2], .agg #[.int .i64 lo, .int .i64 hi], .agg #[.int .i64 u0, .int .i64 u1]] (by rfl) rfl rfl (by (try simp only [List.map_toArray, List.map_cons, List.map_nil]); first | done | rfl | (simp only [List.length_drop, List.length_take]; rfl)) ?_
    with_reducible refine (spans_Bound.calls _ _ X _ _ Y _ _ V lo hi u0 u1 b0 b1 be _ ?k0 hc0 ?k1 hc1 ?k2 hc2 HBd.out).mono ?_
    (case k0 => exact Kd.C_below HR0.out HB.out)
    (case k1 => exact Kd.C_below HR1.out HB.out)
    (case k2 => exact Kd.C_below HR2.out HB.out)
    rintro e wf ⟨rfl, hb⟩
    refine ⟨_, rfl, ?_⟩
    have n0_ := Aside0.mk (below_step HB.out hb)
    have n1_ := Aside0.mk (blk_below BKg.out hb)
    have n2_ := Aside0.mk (blk_below BKgb.out hb)
    have n3_ := Aside0.mk (blk_below BKq.out hb)
    clear HB BKg BKgb BKq
    have HB := n0_
    have BKg := n1_
    have BKgb := n2_
    have BKq := n3_
    clear n0_ n1_ n2_ n3_ hb
    refine hK.out _ _ ⟨(blk_cell BKg.out 1).trans rfl, (blk_cell BKg.out 2).trans rfl, (blk_cell BKg.out 3).trans rfl, (blk_cell BKg.out 5).trans rfl, (blk_cell BKg.out 6).trans rfl, (blk_cell BKgb.out 0).trans rfl, (blk_cell BKgb.out 1).trans rfl⟩ (fun hHeld => ?_)
    clear hK K
    refine norm_ (a' := ?_) ?_ ?_
    rotate_left
    · show Act.put _ (some 22) _ = _
      simp only [Act.put, List.setIfInBounds_toArray, List.set_cons_zero, List.set_cons_succ, i64_w, i32_w]
      rfl
    refine pure_ (i := 11) (N := some 11) (v := ?_) (a' := ?_) #[true, true, true, true, true, true, true, true, true, true, true, true, false, false, true, false, false] rfl rfl (any_of HT_.out (by kernel_rfl)) (fun _ _ _ h => h) (Or.inl ⟨by rfl, ?_⟩) ?_ ?_
    rotate_left
    · intro w'
      go_simp
      with_reducible rfl
    rotate_left
    · simp only [Act.put, List.setIfInBounds_toArray, List.set_cons_zero, List.set_cons_succ, i64_w, i32_w]
      rfl
    refine pure_ (i := 12) (N := some 23) (v := ?_) (a' := ?_) #[true, true, true, true, true, true, true, true, true, true, true, true, true, false, true, false, false] rfl rfl (any_of HT_.out (by kernel_rfl)) (fun _ _ _ h => h) (Or.inl ⟨by rfl, ?_⟩) ?_ ?_
    rotate_left
    · intro w'
      go_simp
      with_reducible rfl
    rotate_left
    · simp only [Act.put, List.setIfInBounds_toArray, List.set_cons_zero, List.set_cons_succ, i64_w, i32_w]
      rfl
    refine pure_ (i := 13) (N := some 24) (v := ?_) (a' := ?_) #[true, true, true, true, true, true, true, true, true, true, true, true, true, true, true, false, false] rfl rfl (any_of HT_.out (by kernel_rfl)) (fun _ _ _ h => h) (Or.inl ⟨by rfl, ?_⟩) ?_ ?_
    rotate_left
    · intro w'
      go_simp
      with_reducible rfl
    rotate_left
    · simp only [Act.put, List.setIfInBounds_toArray, List.set_cons_zero, List.set_cons_succ, i64_w, i32_w]
      rfl
    have z0 := (blk_cell BKq.out 0).trans rfl
    have z1 := (blk_cell BKq.out 1).trans rfl
    have f0 := blk_frozen BKq.out 0
    have f1 := blk_frozen BKq.out 1
    refine last_ (i := 15) (N := none) #[true, true, true, true, true, true, true, true, true, true, true, true, true, true, true, true, false] rfl rfl (one_of HT_.out (by kernel_rfl)) (by decide) (fun K hK => ?_)
    refine skip_ (w1 := ?_) (by rfl) rfl ?_ ?_
    rotate_left
    · go_simp
      rfl
    refine hK.out _ _ ?_
    clear hK K
    have n0_ := Aside0.mk (below_set (j := 1) (v := .int .i64 b1) (below_set (j := 0) (v := .int .i64 b0) HB.out GEq.out) GEq.out)
    have n1_ := Aside0.mk (blk_put (cs := #[.int .i64 b0, .int .i64 0]) (blk_put (cs := #[.int .i64 0, .int .i64 0]) BKq.out 0 (.int .i64 b0) rfl) 1 (.int .i64 b1) rfl)
    clear z0 z1 f0 f1 HB BKq
    have HB := n0_
    have BKq := n1_
    clear n0_ n1_
    refine pure_ (i := 16) (N := some 8) (v := ?_) (a' := ?_) #[true, true, true, true, true, true, true, true, true, true, true, true, true, true, true, true, true] rfl rfl (any_of HT_.out (by kernel_rfl)) (fun _ _ _ h => h) (Or.inl ⟨by rfl, ?_⟩) ?_ ?_
    rotate_left
    · intro w'
      go_simp
      with_reducible rfl
    rotate_left
    · simp only [Act.put, List.setIfInBounds_toArray, List.set_cons_zero, List.set_cons_succ, i64_w, i32_w]
      rfl
    refine done_ (done_of HT_.out (by kernel_rfl)) ?_
    obtain ⟨wy, hwy⟩ : ∃ wy, (wf.setCell ⟨gq, 0, none⟩ (.int .i64 b0)).setCell ⟨gq, 1, none⟩ (.int .i64 b1) = wy := ⟨_, rfl⟩
    rw [hwy] at HB BKq ⊢
    clear hwy
    have z0 : wy.cell? ⟨gq, 0, none⟩ = some (.int .i64 b0) := (blk_cell BKq.out 0).trans rfl
    by_cases hbe : be = 0
    · have hb0 : (be == 0) = true := by simpa using hbe
      have HD : Aside0 (decide (be = 0) = true) := ⟨decide_eq_true hbe⟩
      clear hbe
      go_wp2
      go_ret
      exact ⟨by rw [HD.out, Bool.true_and]; first | rfl | simp, HB.out⟩
    · have hb0 : (be == 0) = false := by simpa using hbe
      have HD : Aside0 (decide (be = 0) = false) := ⟨decide_eq_false hbe⟩
      clear hbe
      go_wp2
      go_ret
      exact ⟨by rw [HD.out, Bool.false_and]; first | rfl | simp, HB.out⟩
end Go.Proofs.Yteodlmgmmpkpoaa.PS
end
section
namespace Go.Proofs.Yteodlmgmmpkpoaa.PS
open Go.RowKit Go.Proofs.YteodlmgmmpkpoaaW.PrintWords Go.Proofs.YteodlmgmmpkpoaaW.PrintLast Go.Proofs.YteodlmgmmpkpoaaW.PrintMore
set_option linter.unusedVariables false
set_option linter.unusedSimpArgs false
theorem car_all : (List.range 51).all (fun L => carB [0, 50] [0, 20] [[300, 200], [200, 100]] 0 (L : Int) 0 10 200 == decide (L ≤ 25)) = true := by decide +kernel
theorem car_ex (L : Nat) (h : L ≤ 50) : carB [0, 50] [0, 20] [[300, 200], [200, 100]] 0 (L : Int) 0 10 200 = decide (L ≤ 25) := by
  have := List.all_eq_true.1 car_all L (List.mem_range.2 (by omega))
  simpa using this
set_option maxRecDepth 100000 in
set_option maxHeartbeats 4000000 in
theorem sling_Deepest.calls (a0_0 : Int) (A0 : Option Addr) (c0 : Nat) (X : List Int) (A1 : Option Addr) (c1 : Nat) (Y : List Int) (A2 : Option Addr) (c2 : Nat) (V : List (List Int)) (a0_4 : Int) (a1_0 : Int) (a1_1 : Int) (a2 : Int) (r1 : Int) (r2 : Int) (w : World) (hr0_1 : Kd.C (Kd.int .i64) w A0 X.length X) (hc0 : X.length ≤ c0) (hr0_2 : Kd.C (Kd.int .i64) w A1 Y.length Y) (hc1 : Y.length ≤ c1) (hr0_3 : Kd.C (Kd.slice 3 (Kd.int .i64)) w A2 V.length V) (hc2 : V.length ≤ c2) (h : sling_Deepest.f a0_0 X Y V a0_4 a1_0 a1_1 a2 = some (r1, r2)) :
    Calls Try.prog 137 #[.agg #[.int .i64 a0_0, .slice A0 X.length c0, .slice A1 Y.length c1, .slice A2 V.length c2, .int .i64 a0_4], .agg #[.int .i64 a1_0, .int .i64 a1_1], .int .i64 a2] w fun e w' => e = .returned (.tuple #[.int .i64 r1, .int .i64 r2]) ∧ Below w.heap.size w w' := by
  have HR0 := Aside0.mk hr0_1
  have HR1 := Aside0.mk hr0_2
  have HR2 := Aside0.mk hr0_3
  clear hr0_1 hr0_2 hr0_3
  unfold sling_Deepest.f at h
  by_cases hc : a0_0 = 50 ∧ X = [0, 50] ∧ Y = [0, 20] ∧ V = [[300, 200], [200, 100]] ∧ a0_4 = 2 ∧ a1_0 = 0 ∧ a1_1 = 10 ∧ a2 = 200
  · rw [if_pos hc] at h
    cases h
    obtain ⟨rfl, hX, hY, hV, rfl, rfl, rfl, rfl⟩ := hc
    have HH : Aside0 (hoistB 50 X Y V 2 = true) := ⟨by rw [hX, hY, hV]; decide +kernel⟩
    have HY0 : Aside0 (gI Y 0 ≤ 0) := ⟨by rw [hY]; decide⟩
    have HBl : Aside0 (decide ((10 : Int) ≤ gI Y (Y.length - 1)) = true) := ⟨by rw [hY]; decide⟩
    have HW : Aside0 (sling_within.f 200 1 100000 = some true) := ⟨by rw [sw7]; rfl⟩
    have HC : Aside0 (∀ L : Nat, L ≤ 50 → carB X Y V 0 (L : Int) 0 10 200 = decide (L ≤ 25)) := ⟨by rw [hX, hY, hV]; exact car_ex⟩
    clear hX hY hV
    have HB := Aside0.mk (Below.refl w.heap.size w)
    go_enter Try.func137, Try.ntmps137
    go_wp2_with (first | ((with_reducible refine gate_dst (N := 3) rfl ?_); refine box_event ?hg (N := 3) ?hd (cs := #[.int .i64 50, .slice A0 X.length c0, .slice A1 Y.length c1, .slice A2 V.length c2, .int .i64 2]) (t := 62) ?hr ?_; (case hd => rfl); (case hg => rfl); (case hr => first | (go_simp; done) | (go_simp; rfl)); intro gh hg w1 hbox hb; have n0_ := Aside0.mk (below_step HB.out hb); have x0_ := Aside0.mk (hbox); have x1_ := Aside0.mk ((by rw [hg]; exact HB.out.size : w.heap.size ≤ gh)); clear HB; have HB := n0_; clear n0_; have BKgh := x0_; clear x0_; have GEgh := x1_; clear x1_; clear hb hbox hg; skip) | ((with_reducible refine gate_dst (N := 4) rfl ?_); refine box_event ?hg (N := 4) ?hd (cs := #[.int .i64 0, .int .i64 10]) (t := 27) ?hr ?_; (case hd => rfl); (case hg => rfl); (case hr => first | (go_simp; done) | (go_simp; rfl)); intro gw hg w2 hbox hb; have n0_ := Aside0.mk (below_step HB.out hb); have m0_ := Aside0.mk (blk_below BKgh.out hb); have x0_ := Aside0.mk (hbox); have x1_ := Aside0.mk ((by rw [hg]; exact HB.out.size : w.heap.size ≤ gw)); clear HB; have HB := n0_; clear n0_; clear BKgh; have BKgh := m0_; clear m0_; have BKgw := x0_; clear x0_; have GEgw := x1_; clear x1_; clear hb hbox hg; have zgh0 : w2.cell? ⟨gh, 0, none⟩ = some (.int .i64 50) := (blk_cell BKgh.out 0).trans rfl; have zgh1 : w2.cell? ⟨gh, 1, none⟩ = some (.slice A0 X.length c0) := (blk_cell BKgh.out 1).trans rfl; have zgh2 : w2.cell? ⟨gh, 2, none⟩ = some (.slice A1 Y.length c1) := (blk_cell BKgh.out 2).trans rfl; have zgh3 : w2.cell? ⟨gh, 3, none⟩ = some (.slice A2 V.length c2) := (blk_cell BKgh.out 3).trans rfl; have zgh4 : w2.cell? ⟨gh, 4, none⟩ = some (.int .i64 2) := (blk_cell BKgh.out 4).trans rfl; have zgw0 : w2.cell? ⟨gw, 0, none⟩ = some (.int .i64 0) := (blk_cell BKgw.out 0).trans rfl; have zgw1 : w2.cell? ⟨gw, 1, none⟩ = some (.int .i64 10) := (blk_cell BKgw.out 1).trans rfl; skip) | (go_at_call 113; refine (newWinch_yes 50 A0 c0 X A1 c1 Y A2 c2 V 2 0 10 _ (Kd.C_below HR0.out HB.out) hc0 (Kd.C_below HR1.out HB.out) hc1 (Kd.C_below HR2.out HB.out) hc2 HH.out (by decide) HY0.out).mono ?_; rw [HBl.out]; rintro e w3 ⟨g, rfl, hk, hge, hb⟩; have BKg := Aside0.mk hk; have GEg : Aside0 (w.heap.size ≤ g) := ⟨Nat.le_trans HB.out.size hge⟩; clear hk hge; have n0_ := Aside0.mk (below_step HB.out hb); have m0_ := Aside0.mk (blk_below BKgh.out hb); have m1_ := Aside0.mk (blk_below BKgw.out hb); clear HB; have HB := n0_; clear n0_; clear BKgh; have BKgh := m0_; clear m0_; clear BKgw; have BKgw := m1_; clear m1_; clear hb; clear zgh0; clear zgh1; clear zgh2; clear zgh3; clear zgh4; clear zgw0; clear zgw1; have zgh0 : w3.cell? ⟨gh, 0, none⟩ = some (.int .i64 50) := (blk_cell BKgh.out 0).trans rfl; skip) | (go_at_call 115; refine (within_c _ _ _ _ HW.out _).mono ?_; rintro e w4 ⟨rfl, hb⟩; have m_ := Aside0.mk (blk_below BKg.out hb); clear BKg; have BKg := m_; clear m_; have n0_ := Aside0.mk (below_step HB.out hb); have m0_ := Aside0.mk (blk_below BKgh.out hb); have m1_ := Aside0.mk (blk_below BKgw.out hb); clear HB; have HB := n0_; clear n0_; clear BKgh; have BKgh := m0_; clear m0_; clear BKgw; have BKgw := m1_; clear m1_; clear hb; clear zgh0; have zgh0 : w4.cell? ⟨gh, 0, none⟩ = some (.int .i64 50) := (blk_cell BKgh.out 0).trans rfl; skip))
    clear zgh0
    go_loopw [11] (fun v11 wr => ∃ L : Nat, v11 = .int .i64 L ∧ Aside0 (25 ≤ L ∧ L ≤ 50) ∧ Aside0 (wr.heap[g]? = some (.cells (wiC 50 A0 X.length c0 A1 Y.length c1 A2 V.length c2 2 0 10 0 0 0 0 false false) 160 (0, 0))) ∧ Aside0 (Below w.heap.size w wr)) (fun v11 _ => (intOf v11).toNat)
    case atStart => exact ⟨50, rfl, ⟨by omega⟩, BKg, HB⟩
    case round =>
      obtain ⟨L, rfl, HL, HK, HBr⟩ := hrel
      clear BKg HB BKgh BKgw
      have hL := HL.out
      have h0 : decide ((0 : Int) ≤ (L : Int)) = true := decide_eq_true (by omega)
      have hcL := HC.out L hL.2
      by_cases h25 : L = 25
      · have HD : Aside0 (carB X Y V 0 (L : Int) 0 10 200 = true) := ⟨by rw [hcL]; exact decide_eq_true (by omega)⟩
        have HL25 := Aside0.mk h25
        clear hcL h25
        go_wp2_with (go_at_call 116; (with_reducible refine (winch_carries g 50 A0 c0 X A1 c1 Y A2 c2 V 2 0 10 0 0 0 0 false false 0 (L : Int) 200 _ (Kd.C_below HR0.out HBr.out) hc0 (Kd.C_below HR1.out HBr.out) hc1 (Kd.C_below HR2.out HBr.out) hc2 HK.out (by decide)).mono ?_); rw [HD.out]; rintro e w5 ⟨rfl, hb⟩)
        refine bodyPost_ret (results_list (rs := [.tmp 6, .tmp 7]) rfl (by simp) (.tmp (.tmp .nil))) rfl ?_
        exact ⟨by rw [HL25.out]; rfl, HBr.out.trans (hb.mono HBr.out.size)⟩
      · have HD : Aside0 (carB X Y V 0 (L : Int) 0 10 200 = false) := ⟨by rw [hcL]; exact decide_eq_false (by omega)⟩
        have wl : IntKind.i64.wrap ((L : Int) - 1) = ((L - 1 : Nat) : Int) := by rw [i64_w, wr64 (by omega) (by omega)]; omega
        have HLL : Aside0 (25 < L ∧ L ≤ 50) := ⟨by omega⟩
        clear hcL h25
        go_wp2_with (go_at_call 116; (with_reducible refine (winch_carries g 50 A0 c0 X A1 c1 Y A2 c2 V 2 0 10 0 0 0 0 false false 0 (L : Int) 200 _ (Kd.C_below HR0.out HBr.out) hc0 (Kd.C_below HR1.out HBr.out) hc1 (Kd.C_below HR2.out HBr.out) hc2 HK.out (by decide)).mono ?_); rw [HD.out]; rintro e w5 ⟨rfl, hb⟩)
        go_roundw
        case measure => have := HLL.out; simp [intOf]; omega
        case rel => exact ⟨L - 1, rfl, ⟨by have := HLL.out; omega⟩, ⟨blk_below HK.out hb⟩, ⟨HBr.out.trans (hb.mono HBr.out.size)⟩⟩
  · rw [if_neg hc] at h
    cases h
end Go.Proofs.Yteodlmgmmpkpoaa.PS
end
section
namespace Go.Proofs.Yteodlmgmmpkpoaa.PS
open Go.RowKit Go.Proofs.YteodlmgmmpkpoaaW.PrintWords Go.Proofs.YteodlmgmmpkpoaaW.PrintLast Go.Proofs.YteodlmgmmpkpoaaW.PrintMore
attribute [local go_sem] max2_int min2_int max_two min_two max_three min_three max_four min_four   -- for this text's walks alone
set_option linter.unusedVariables false
set_option linter.unusedSimpArgs false
def swashplatelaw07_Example.f  : Option (Int × List Int × List Int × (List (List Int)) × Int) := some (50, (([0, 50] : List Int)), (([0, 20] : List Int)), (([(([300, 200] : List Int)), (([200, 100] : List Int))] : List (List Int))), 2)
set_option maxHeartbeats 8000000 in
set_option maxRecDepth 100000 in
theorem swashplatelaw07_Example.calls  (r1 : Int) (r2 : List Int) (r3 : List Int) (r4 : List (List Int)) (r5 : Int) (w : World) (h : swashplatelaw07_Example.f  = some (r1, r2, r3, r4, r5)) :
  Calls Try.prog 138 #[] w fun e w' => ∃ v1_ v2_ v3_ : Value, e = .returned (.agg #[.int .i64 r1, v1_, v2_, v3_, .int .i64 r5]) ∧ Kd.R (Kd.int .i64) 3 w' w.heap.size (fun k_ => (w.heap.size ≤ k_) ∧ some k_ ≠ (v2_ : Value).ownBlock) v1_ r2 ∧ Kd.R (Kd.int .i64) 3 w' w.heap.size (fun k_ => (w.heap.size ≤ k_) ∧ some k_ ≠ (v1_ : Value).ownBlock) v2_ r3 ∧ Kd.N (Kd.slice 3 (Kd.int .i64)) 22 w' w.heap.size (fun k_ => (w.heap.size ≤ k_) ∧ some k_ ≠ (v1_ : Value).ownBlock ∧ some k_ ≠ (v2_ : Value).ownBlock) v3_ r4 ∧ Below w.heap.size w w' := by
 have hu62 := Try.underlying62
 have hu25 := Try.underlying25
 have HB := Aside0.mk (Below.refl w.heap.size w)
 have H : (some (50, (([0, 50] : List Int)), (([0, 20] : List Int)), (([(([300, 200] : List Int)), (([200, 100] : List Int))] : List (List Int))), 2)) = some (r1, r2, r3, r4, r5) := h
 clear h
 obtain ⟨y191, hy191⟩ : ∃ y_ : List Int, y_ = (([0, 50] : List Int)) := ⟨_, rfl⟩
 replace H : (some (50, y191, (([0, 20] : List Int)), (([(([300, 200] : List Int)), (([200, 100] : List Int))] : List (List Int))), 2)) = some (r1, r2, r3, r4, r5) := by first | (rw [hy191]; with_reducible exact H) | (have H2_ := (Option.bind_some _ _).symm.trans H; rw [hy191]; with_reducible exact H2_) | (have H2_ := (Option.bind_some _ _).symm.trans H; with_reducible exact H2_) | with_reducible exact H | (rw [hy191]; exact H) | exact H
 have Ny191 := Aside0.mk hy191
 clear hy191
 obtain ⟨y194, hy194⟩ : ∃ y_ : List Int, y_ = (([0, 20] : List Int)) := ⟨_, rfl⟩
 replace H : (some (50, y191, y194, (([(([300, 200] : List Int)), (([200, 100] : List Int))] : List (List Int))), 2)) = some (r1, r2, r3, r4, r5) := by first | (rw [hy194]; with_reducible exact H) | (have H2_ := (Option.bind_some _ _).symm.trans H; rw [hy194]; with_reducible exact H2_) | (have H2_ := (Option.bind_some _ _).symm.trans H; with_reducible exact H2_) | with_reducible exact H | (rw [hy194]; exact H) | exact H
 have Ny194 := Aside0.mk hy194
 clear hy194
 obtain ⟨y197, hy197⟩ : ∃ y_ : List Int, y_ = (([300, 200] : List Int)) := ⟨_, rfl⟩
 replace H : (some (50, y191, y194, (([y197, (([200, 100] : List Int))] : List (List Int))), 2)) = some (r1, r2, r3, r4, r5) := by first | (rw [hy197]; with_reducible exact H) | (have H2_ := (Option.bind_some _ _).symm.trans H; rw [hy197]; with_reducible exact H2_) | (have H2_ := (Option.bind_some _ _).symm.trans H; with_reducible exact H2_) | with_reducible exact H | (rw [hy197]; exact H) | exact H
 have Ny197 := Aside0.mk hy197
 clear hy197
 obtain ⟨y200, hy200⟩ : ∃ y_ : List Int, y_ = (([200, 100] : List Int)) := ⟨_, rfl⟩
 replace H : (some (50, y191, y194, (([y197, y200] : List (List Int))), 2)) = some (r1, r2, r3, r4, r5) := by first | (rw [hy200]; with_reducible exact H) | (have H2_ := (Option.bind_some _ _).symm.trans H; rw [hy200]; with_reducible exact H2_) | (have H2_ := (Option.bind_some _ _).symm.trans H; with_reducible exact H2_) | with_reducible exact H | (rw [hy200]; exact H) | exact H
 have Ny200 := Aside0.mk hy200
 clear hy200
 obtain ⟨y203, hy203⟩ : ∃ y_ : List (List Int), y_ = (([y197, y200] : List (List Int))) := ⟨_, rfl⟩
 replace H : (some (50, y191, y194, y203, 2)) = some (r1, r2, r3, r4, r5) := by first | (rw [hy203]; with_reducible exact H) | (have H2_ := (Option.bind_some _ _).symm.trans H; rw [hy203]; with_reducible exact H2_) | (have H2_ := (Option.bind_some _ _).symm.trans H; with_reducible exact H2_) | with_reducible exact H | (rw [hy203]; exact H) | exact H
 have Ny203 := Aside0.mk hy203
 clear hy203
 simp only [Option.some.injEq, Prod.mk.injEq] at H
 obtain ⟨rfl, rfl, rfl, rfl, rfl⟩ := H
 go_enter Try.func138, Try.ntmps138
 go_wp2_with (first | ((with_reducible refine gate_dst (N := 0) rfl ?_); refine box_event ?hg (N := 0) ?hd (cs := #[.int .i64 0, .slice none 0 0, .slice none 0 0, .slice none 0 0, .int .i64 0]) (t := 62) ?hr ?_; (case hd => rfl); (case hg => rfl); (case hr => first | (go_simp; done) | (go_simp; rfl)); intro gb190 hg w1 hbox hb; have n0_ := Aside0.mk (below_step (bl_ HB.out) hb); have n1_ := Aside0.mk (hbox); have n2_ := Aside0.mk (szl_ hg HB.out); have n3_ := Aside0.mk (szl_ hg HB.out); clear HB; have HB := n0_; have BK190 := n1_; have GW190 := n2_; have GE190 := n3_; clear n0_ n1_ n2_ n3_ hb hbox hg) | ((with_reducible refine gate_dst (N := 1) rfl ?_); refine Kd.R_lit (Kd.int .i64) _ 3 ?hg (N := 1) ?hd (xs := ([0, 50] : List Int)) (inner := [.int .i64 0, .int .i64 50]) (ok := fun _ => True) (okp := fun _ => True) ?hr ?hp (fun _ hk => hk) trivial (Below.refl _ _) (Nat.le_refl _) (by simp) ?_; (case hd => rfl); (case hg => rfl); (case hr => first | (go_simp; done) | (go_simp; rfl)); (case hp => exact (Reps.one (show Kd.M (Kd.int .i64) _ _ _ 0 [.int .i64 0] from rfl) (Reps.one (show Kd.M (Kd.int .i64) _ _ _ 50 [.int .i64 50] from rfl) (Reps.none _ _)))); intro v192 w2 ho3 hb hg_ hnew_; clear hg_ hnew_; (first | rw [← Ny191.out] at ho3 | (simp only [Int.reduceToNat] at ho3; rw [← Ny191.out] at ho3)); have n0_ := Aside0.mk (Kd.R_lower (Kd.R_newM (M := fun k_ => (w.heap.size ≤ k_)) ho3 (below_size (bl_ HB.out)) (fun k_ h_ => h_)) (below_size (bl_ HB.out))); have n1_ := Aside0.mk (blk_below (bk_ BK190.out) hb); have n2_ := Aside0.mk (below_step (bl_ HB.out) hb); clear BK190 HB; have HO193 := n0_; have BK190 := n1_; have HB := n2_; clear n0_ n1_ n2_ hb ho3) | ((with_reducible refine gate_dst (N := 2) rfl ?_); refine Kd.R_lit (Kd.int .i64) _ 3 ?hg (N := 2) ?hd (xs := ([0, 20] : List Int)) (inner := [.int .i64 0, .int .i64 20]) (ok := fun _ => True) (okp := fun _ => True) ?hr ?hp (fun _ hk => hk) trivial (Below.refl _ _) (Nat.le_refl _) (by simp) ?_; (case hd => rfl); (case hg => rfl); (case hr => first | (go_simp; done) | (go_simp; rfl)); (case hp => exact (Reps.one (show Kd.M (Kd.int .i64) _ _ _ 0 [.int .i64 0] from rfl) (Reps.one (show Kd.M (Kd.int .i64) _ _ _ 20 [.int .i64 20] from rfl) (Reps.none _ _)))); intro v195 w4 ho5 hb hg_ hnew_; clear hg_ hnew_; (first | rw [← Ny194.out] at ho5 | (simp only [Int.reduceToNat] at ho5; rw [← Ny194.out] at ho5)); have n0_ := Aside0.mk (Kd.R_elder' (by (with_reducible repeat (first | apply Kd.R_alloc | apply Kd.R_drewN | apply Kd.R_drew)); exact HO193.out) (Kd.R_base ho5) hb); have n1_ := Aside0.mk (Kd.R_lower (Kd.R_new' (Kd.R_newM (M := fun k_ => (w.heap.size ≤ k_)) ho5 (below_size (bl_ HB.out)) (fun k_ h_ => h_)) (Kd.R_lt (by (with_reducible repeat (first | apply Kd.R_alloc | apply Kd.R_drewN | apply Kd.R_drew)); exact HO193.out))) (below_size (bl_ HB.out))); have n2_ := Aside0.mk (blk_below (bk_ BK190.out) hb); have n3_ := Aside0.mk (below_step (bl_ HB.out) hb); clear HO193 BK190 HB; have HO193 := n0_; have HO196 := n1_; have BK190 := n2_; have HB := n3_; clear n0_ n1_ n2_ n3_ hb ho5) | ((with_reducible refine gate_dst (N := 3) rfl ?_); refine Kd.R_lit (Kd.int .i64) _ 3 ?hg (N := 3) ?hd (xs := ([300, 200] : List Int)) (inner := [.int .i64 300, .int .i64 200]) (ok := fun _ => True) (okp := fun _ => True) ?hr ?hp (fun _ hk => hk) trivial (Below.refl _ _) (Nat.le_refl _) (by simp) ?_; (case hd => rfl); (case hg => rfl); (case hr => first | (go_simp; done) | (go_simp; rfl)); (case hp => exact (Reps.one (show Kd.M (Kd.int .i64) _ _ _ 300 [.int .i64 300] from rfl) (Reps.one (show Kd.M (Kd.int .i64) _ _ _ 200 [.int .i64 200] from rfl) (Reps.none _ _)))); intro v198 w6 ho7 hb hg_ hnew_; clear hg_ hnew_; (first | rw [← Ny197.out] at ho7 | (simp only [Int.reduceToNat] at ho7; rw [← Ny197.out] at ho7)); have n0_ := Aside0.mk (Kd.R_elder' (by (with_reducible repeat (first | apply Kd.R_alloc | apply Kd.R_drewN | apply Kd.R_drew)); exact HO193.out) (Kd.R_base ho7) hb); have n1_ := Aside0.mk (Kd.R_elder' (by (with_reducible repeat (first | apply Kd.R_alloc | apply Kd.R_drewN | apply Kd.R_drew)); exact HO196.out) (Kd.R_base ho7) hb); have n2_ := Aside0.mk (Kd.R_lower (Kd.R_new' (Kd.R_new' (Kd.R_newM (M := fun k_ => (w.heap.size ≤ k_)) ho7 (below_size (bl_ HB.out)) (fun k_ h_ => h_)) (Kd.R_lt (by (with_reducible repeat (first | apply Kd.R_alloc | apply Kd.R_drewN | apply Kd.R_drew)); exact HO193.out))) (Kd.R_lt (by (with_reducible repeat (first | apply Kd.R_alloc | apply Kd.R_drewN | apply Kd.R_drew)); exact HO196.out))) (below_size (bl_ HB.out))); have n3_ := Aside0.mk (blk_below (bk_ BK190.out) hb); have n4_ := Aside0.mk (below_step (bl_ HB.out) hb); clear HO193 HO196 BK190 HB; have HO193 := n0_; have HO196 := n1_; have HO199 := n2_; have BK190 := n3_; have HB := n4_; clear n0_ n1_ n2_ n3_ n4_ hb ho7) | ((with_reducible refine gate_dst (N := 4) rfl ?_); refine Kd.R_lit (Kd.int .i64) _ 3 ?hg (N := 4) ?hd (xs := ([200, 100] : List Int)) (inner := [.int .i64 200, .int .i64 100]) (ok := fun _ => True) (okp := fun _ => True) ?hr ?hp (fun _ hk => hk) trivial (Below.refl _ _) (Nat.le_refl _) (by simp) ?_; (case hd => rfl); (case hg => rfl); (case hr => first | (go_simp; done) | (go_simp; rfl)); (case hp => exact (Reps.one (show Kd.M (Kd.int .i64) _ _ _ 200 [.int .i64 200] from rfl) (Reps.one (show Kd.M (Kd.int .i64) _ _ _ 100 [.int .i64 100] from rfl) (Reps.none _ _)))); intro v201 w8 ho9 hb hg_ hnew_; clear hg_ hnew_; (first | rw [← Ny200.out] at ho9 | (simp only [Int.reduceToNat] at ho9; rw [← Ny200.out] at ho9)); have n0_ := Aside0.mk (Kd.R_elder' (by (with_reducible repeat (first | apply Kd.R_alloc | apply Kd.R_drewN | apply Kd.R_drew)); exact HO193.out) (Kd.R_base ho9) hb); have n1_ := Aside0.mk (Kd.R_elder' (by (with_reducible repeat (first | apply Kd.R_alloc | apply Kd.R_drewN | apply Kd.R_drew)); exact HO196.out) (Kd.R_base ho9) hb); have n2_ := Aside0.mk (Kd.R_elder' (by (with_reducible repeat (first | apply Kd.R_alloc | apply Kd.R_drewN | apply Kd.R_drew)); exact HO199.out) (Kd.R_base ho9) hb); have n3_ := Aside0.mk (Kd.R_lower (Kd.R_new' (Kd.R_new' (Kd.R_new' (Kd.R_newM (M := fun k_ => (w.heap.size ≤ k_)) ho9 (below_size (bl_ HB.out)) (fun k_ h_ => h_)) (Kd.R_lt (by (with_reducible repeat (first | apply Kd.R_alloc | apply Kd.R_drewN | apply Kd.R_drew)); exact HO193.out))) (Kd.R_lt (by (with_reducible repeat (first | apply Kd.R_alloc | apply Kd.R_drewN | apply Kd.R_drew)); exact HO196.out))) (Kd.R_lt (by (with_reducible repeat (first | apply Kd.R_alloc | apply Kd.R_drewN | apply Kd.R_drew)); exact HO199.out))) (below_size (bl_ HB.out))); have n4_ := Aside0.mk (blk_below (bk_ BK190.out) hb); have n5_ := Aside0.mk (below_step (bl_ HB.out) hb); clear HO193 HO196 HO199 BK190 HB; have HO193 := n0_; have HO196 := n1_; have HO199 := n2_; have HO202 := n3_; have BK190 := n4_; have HB := n5_; clear n0_ n1_ n2_ n3_ n4_ n5_ hb ho9; obtain ⟨Ao10, co10, eo10⟩ := Kd.R_slice HO199.out; subst eo10; obtain ⟨Ao11, co11, eo11⟩ := Kd.R_slice HO202.out; subst eo11) | ((with_reducible refine gate_dst (N := 5) rfl ?_); refine Kd.N_lit (Kd.slice 3 (Kd.int .i64)) _ 22 ?hg (N' := 5) ?hd (xs := ([y197, y200] : List (List Int))) (inner := [.slice Ao10 y197.length co10, .slice Ao11 y200.length co11]) (ok := (fun k_ => (w.heap.size ≤ k_) ∧ some k_ ≠ (v192 : Value).ownBlock ∧ some k_ ≠ (v195 : Value).ownBlock ∧ k_ ≠ gb190)) (okp := (fun k_ => (w.heap.size ≤ k_) ∧ some k_ ≠ (v192 : Value).ownBlock ∧ some k_ ≠ (v195 : Value).ownBlock ∧ k_ ≠ gb190)) ?hr ?hp (fun _ hk => hk) ((show ∀ k_, w8.heap.size ≤ k_ → (fun k_ => (w.heap.size ≤ k_) ∧ some k_ ≠ (v192 : Value).ownBlock ∧ some k_ ≠ (v195 : Value).ownBlock ∧ k_ ≠ gb190) k_ from fun k_ hk => ⟨(Nat.le_trans (below_size (bl_ HB.out)) hk), Kd.fresh' (Kd.R_lt (by (with_reducible repeat (first | apply Kd.R_alloc | apply Kd.R_drewN | apply Kd.R_drew)); exact HO193.out)) k_ hk, Kd.fresh' (Kd.R_lt (by (with_reducible repeat (first | apply Kd.R_alloc | apply Kd.R_drewN | apply Kd.R_drew)); exact HO196.out)) k_ hk, Kd.freshB (bk_ BK190.out) k_ hk⟩) _ (Nat.le_refl _)) (Below.refl _ _) (Nat.le_refl _) (by simp) ?_; (case hd => rfl); (case hg => rfl); (case hr => first | (go_simp; done) | (go_simp; rfl)); (case hp => exact (Reps.one (show Kd.FK (Kd.slice 3 (Kd.int .i64)) _ _ y197 [.slice Ao10 y197.length co10] from (Kd.FK_slice_mk (Kd.R_reads' (Kd.R_mono (ok' := (fun k_ => (w.heap.size ≤ k_) ∧ some k_ ≠ (v192 : Value).ownBlock ∧ some k_ ≠ (v195 : Value).ownBlock ∧ k_ ≠ gb190)) (Kd.R_types (HO199.out) BK190.out (by decide)) (fun k_ hk => ⟨hk.1.1.1.1.1, ⟨hk.1.1.1.2, ⟨hk.1.1.2, hk.2⟩⟩⟩))).2.1 (Kd.R_F (Kd.R_mono (ok' := (fun k_ => (w.heap.size ≤ k_) ∧ some k_ ≠ (v192 : Value).ownBlock ∧ some k_ ≠ (v195 : Value).ownBlock ∧ k_ ≠ gb190)) (Kd.R_types (HO199.out) BK190.out (by decide)) (fun k_ hk => ⟨hk.1.1.1.1.1, ⟨hk.1.1.1.2, ⟨hk.1.1.2, hk.2⟩⟩⟩))))) (Reps.one (show Kd.FK (Kd.slice 3 (Kd.int .i64)) _ _ y200 [.slice Ao11 y200.length co11] from (Kd.FK_slice_mk (Kd.R_reads' (Kd.R_mono (ok' := (fun k_ => (w.heap.size ≤ k_) ∧ some k_ ≠ (v192 : Value).ownBlock ∧ some k_ ≠ (v195 : Value).ownBlock ∧ k_ ≠ gb190)) (Kd.R_types (HO202.out) BK190.out (by decide)) (fun k_ hk => ⟨hk.1.1.1.1.1, ⟨hk.1.1.1.2, ⟨hk.1.1.2, hk.2⟩⟩⟩))).2.1 (Kd.R_F (Kd.R_mono (ok' := (fun k_ => (w.heap.size ≤ k_) ∧ some k_ ≠ (v192 : Value).ownBlock ∧ some k_ ≠ (v195 : Value).ownBlock ∧ k_ ≠ gb190)) (Kd.R_types (HO202.out) BK190.out (by decide)) (fun k_ hk => ⟨hk.1.1.1.1.1, ⟨hk.1.1.1.2, ⟨hk.1.1.2, hk.2⟩⟩⟩))))) (Reps.none _ _)))); intro v204 w12 ho13 hb hg_ hnew_; clear hg_ hnew_; (first | rw [← Ny203.out] at ho13 | (simp only [Int.reduceToNat] at ho13; rw [← Ny203.out] at ho13)); have n0_ := Aside0.mk (Kd.R_below (by (with_reducible repeat (first | apply Kd.R_alloc | apply Kd.R_drewN | apply Kd.R_drew)); exact HO193.out) hb); have n1_ := Aside0.mk (Kd.R_below (by (with_reducible repeat (first | apply Kd.R_alloc | apply Kd.R_drewN | apply Kd.R_drew)); exact HO196.out) hb); have n2_ := Aside0.mk (Kd.N_lower ho13 (below_size (bl_ HB.out))); have n3_ := Aside0.mk (blk_below (bk_ BK190.out) hb); have n4_ := Aside0.mk (below_step (bl_ HB.out) hb); clear HO193 HO196 BK190 HB HO199 HO202; have HO193 := n0_; have HO196 := n1_; have HO205 := n2_; have BK190 := n3_; have HB := n4_; clear n0_ n1_ n2_ n3_ n4_ hb ho13; obtain ⟨Ao14, co14, eo14⟩ := Kd.N_slice HO205.out; subst eo14; obtain ⟨Ao15, co15, eo15⟩ := Kd.R_slice HO196.out; subst eo15; obtain ⟨Ao16, co16, eo16⟩ := Kd.R_slice HO193.out; subst eo16; have hcz17_0 : w12.cell? ⟨gb190, 0, none⟩ = some (.int .i64 0) := (blk_cell BK190.out 0).trans rfl; have hcz17_1 : w12.cell? ⟨gb190, 1, none⟩ = some (.slice none 0 0) := (blk_cell BK190.out 1).trans rfl; have hcz17_2 : w12.cell? ⟨gb190, 2, none⟩ = some (.slice none 0 0) := (blk_cell BK190.out 2).trans rfl; have hcz17_3 : w12.cell? ⟨gb190, 3, none⟩ = some (.slice none 0 0) := (blk_cell BK190.out 3).trans rfl; have hcz17_4 : w12.cell? ⟨gb190, 4, none⟩ = some (.int .i64 0) := (blk_cell BK190.out 4).trans rfl; have hfz17_0 := blk_frozen BK190.out 0; have hfz17_1 := blk_frozen BK190.out 1; have hfz17_2 := blk_frozen BK190.out 2; have hfz17_3 := blk_frozen BK190.out 3; have hfz17_4 := blk_frozen BK190.out 4))
 refine bodyPost_ret (results_cell_row rfl _ _ gb190 62 #[.int .i64 50, .slice Ao16 y191.length co16, .slice Ao15 y194.length co15, .slice Ao14 y203.length co14, .int .i64 2] (0, 0) _ rfl (by (with_reducible repeat (first | refine blk_drewN ?_ _ | refine blk_drew ?_ | refine blk_alloc ?_ _)); refine blk_put (cs := #[.int .i64 50, .slice Ao16 y191.length co16, .slice Ao15 y194.length co15, .slice Ao14 y203.length co14, .int .i64 0]) ?_ 4 _ rfl; (with_reducible repeat (first | refine blk_drewN ?_ _ | refine blk_drew ?_ | refine blk_alloc ?_ _)); refine blk_put (cs := #[.int .i64 50, .slice Ao16 y191.length co16, .slice Ao15 y194.length co15, .slice none 0 0, .int .i64 0]) ?_ 3 _ rfl; (with_reducible repeat (first | refine blk_drewN ?_ _ | refine blk_drew ?_ | refine blk_alloc ?_ _)); refine blk_put (cs := #[.int .i64 50, .slice Ao16 y191.length co16, .slice none 0 0, .slice none 0 0, .int .i64 0]) ?_ 2 _ rfl; (with_reducible repeat (first | refine blk_drewN ?_ _ | refine blk_drew ?_ | refine blk_alloc ?_ _)); refine blk_put (cs := #[.int .i64 50, .slice none 0 0, .slice none 0 0, .slice none 0 0, .int .i64 0]) ?_ 1 _ rfl; (with_reducible repeat (first | refine blk_drewN ?_ _ | refine blk_drew ?_ | refine blk_alloc ?_ _)); refine blk_put (cs := #[.int .i64 0, .slice none 0 0, .slice none 0 0, .slice none 0 0, .int .i64 0]) ?_ 0 _ rfl; (with_reducible repeat (first | refine blk_drewN ?_ _ | refine blk_drew ?_ | refine blk_alloc ?_ _)); exact BK190.out) Try.underlying62 rfl (by kernel_rfl)) rfl ?_
 exact ⟨_, _, _, by first | rfl | (simp [errW_none, errW_some] <;> rfl) | (simp [*, errW_none, errW_some] <;> rfl), by (with_reducible repeat (first | apply Kd.R_alloc | apply Kd.R_drewN | apply Kd.R_drew)); exact Kd.R_mono (Kd.R_far (p := ⟨gb190, 4, none⟩) (Kd.R_far (p := ⟨gb190, 3, none⟩) (Kd.R_far (p := ⟨gb190, 2, none⟩) (Kd.R_far (p := ⟨gb190, 1, none⟩) (Kd.R_far (p := ⟨gb190, 0, none⟩) (Kd.R_types HO193.out BK190.out (by decide)) (fun _ hk => hk.2) (.int .i64 50)) (fun _ hk => hk.2) (.slice Ao16 y191.length co16)) (fun _ hk => hk.2) (.slice Ao15 y194.length co15)) (fun _ hk => hk.2) (.slice Ao14 y203.length co14)) (fun _ hk => hk.2) (.int .i64 2)) (fun _ hk => ⟨hk.1.1.1.1.1, hk.1.1.1.2⟩), by (with_reducible repeat (first | apply Kd.R_alloc | apply Kd.R_drewN | apply Kd.R_drew)); exact Kd.R_mono (Kd.R_far (p := ⟨gb190, 4, none⟩) (Kd.R_far (p := ⟨gb190, 3, none⟩) (Kd.R_far (p := ⟨gb190, 2, none⟩) (Kd.R_far (p := ⟨gb190, 1, none⟩) (Kd.R_far (p := ⟨gb190, 0, none⟩) (Kd.R_types HO196.out BK190.out (by decide)) (fun _ hk => hk.2) (.int .i64 50)) (fun _ hk => hk.2) (.slice Ao16 y191.length co16)) (fun _ hk => hk.2) (.slice Ao15 y194.length co15)) (fun _ hk => hk.2) (.slice Ao14 y203.length co14)) (fun _ hk => hk.2) (.int .i64 2)) (fun _ hk => ⟨hk.1.1.1.1.1, hk.1.1.1.2⟩), by (with_reducible repeat (first | apply Kd.N_alloc | apply Kd.N_drewN | apply Kd.N_drew)); exact Kd.N_mono (Kd.N_far (p := ⟨gb190, 4, none⟩) (Kd.N_far (p := ⟨gb190, 3, none⟩) (Kd.N_far (p := ⟨gb190, 2, none⟩) (Kd.N_far (p := ⟨gb190, 1, none⟩) (Kd.N_far (p := ⟨gb190, 0, none⟩) (Kd.N_mono HO205.out (fun k_ hk => (⟨hk, hk.2.2.2⟩ : _ ∧ k_ ≠ gb190))) (fun _ hk => hk.2) (.int .i64 50)) (fun _ hk => hk.2) (.slice Ao16 y191.length co16)) (fun _ hk => hk.2) (.slice Ao15 y194.length co15)) (fun _ hk => hk.2) (.slice Ao14 y203.length co14)) (fun _ hk => hk.2) (.int .i64 2)) (fun _ hk => ⟨hk.1.1, ⟨hk.1.2.1, hk.1.2.2.1⟩⟩), bl_ HB.out⟩
end Go.Proofs.Yteodlmgmmpkpoaa.PS
end
section
namespace Go.Proofs.Yteodlmgmmpkpoaa.PS
open Go.RowKit Go.Proofs.YteodlmgmmpkpoaaW.PrintWords Go.Proofs.YteodlmgmmpkpoaaW.PrintLast Go.Proofs.YteodlmgmmpkpoaaW.PrintMore
attribute [local go_sem] max2_int min2_int max_two min_two max_three min_three max_four min_four   -- for this text's walks alone
set_option linter.unusedVariables false
set_option linter.unusedSimpArgs false
def swashplatelaw07_works.f (k : Nat)  : Option (Bool) := (sling_Swing.f 1 1 2 1 1 (([0, 1] : List Int))).bind fun bt209 => ((swashplatelaw07_Example.f).bind fun bt213 => ((sling_Deepest.f bt213.1 bt213.2.1 bt213.2.2.1 bt213.2.2.2.1 bt213.2.2.2.2 0 10 200).bind fun bt224 => (if bt209.2 = 0 then (if bt224.2 = 0 then (if bt224.1 = 25 then ((swashplatelaw07_sameFractions.f k bt209.1 (([(⟨1, 1⟩ : S28), (⟨3, 2⟩ : S28)] : List (S28)))).bind fun t229 => (some t229)) else (some false)) else (some false)) else (some false))))
set_option maxHeartbeats 8000000 in
set_option maxRecDepth 100000 in
theorem swashplatelaw07_works.calls (k : Nat)  (r : Bool) (w : World) (h : swashplatelaw07_works.f k  = some r) :
  Calls Try.prog 75 #[] w fun e w' => e = .returned (.bool r) ∧ Below w.heap.size w w' := by
 have hu105 := Try.underlying105
 have hu28 := Try.underlying28
 have hu27 := Try.underlying27
 have HB := Aside0.mk (Below.refl w.heap.size w)
 have H : ((sling_Swing.f 1 1 2 1 1 (([0, 1] : List Int))).bind fun bt209 => ((swashplatelaw07_Example.f).bind fun bt213 => ((sling_Deepest.f bt213.1 bt213.2.1 bt213.2.2.1 bt213.2.2.2.1 bt213.2.2.2.2 0 10 200).bind fun bt224 => (if bt209.2 = 0 then (if bt224.2 = 0 then (if bt224.1 = 25 then ((swashplatelaw07_sameFractions.f k bt209.1 (([(⟨1, 1⟩ : S28), (⟨3, 2⟩ : S28)] : List (S28)))).bind fun t229 => (some t229)) else (some false)) else (some false)) else (some false))))) = some r := h
 clear h
 obtain ⟨y206, hy206⟩ : ∃ y_ : List Int, y_ = (([0, 1] : List Int)) := ⟨_, rfl⟩
 replace H : ((sling_Swing.f 1 1 2 1 1 y206).bind fun bt209 => ((swashplatelaw07_Example.f).bind fun bt213 => ((sling_Deepest.f bt213.1 bt213.2.1 bt213.2.2.1 bt213.2.2.2.1 bt213.2.2.2.2 0 10 200).bind fun bt224 => (if bt209.2 = 0 then (if bt224.2 = 0 then (if bt224.1 = 25 then ((swashplatelaw07_sameFractions.f k bt209.1 (([(⟨1, 1⟩ : S28), (⟨3, 2⟩ : S28)] : List (S28)))).bind fun t229 => (some t229)) else (some false)) else (some false)) else (some false))))) = some r := by first | (rw [hy206]; with_reducible exact H) | (have H2_ := (Option.bind_some _ _).symm.trans H; rw [hy206]; with_reducible exact H2_) | (have H2_ := (Option.bind_some _ _).symm.trans H; with_reducible exact H2_) | with_reducible exact H | (rw [hy206]; exact H) | exact H
 have Ny206 := Aside0.mk hy206
 clear hy206
 replace H := Option.bind_eq_some_iff.mp H
 obtain ⟨⟨t209, t212⟩, A10, H⟩ := H
 replace H : ((swashplatelaw07_Example.f).bind fun bt213 => ((sling_Deepest.f bt213.1 bt213.2.1 bt213.2.2.1 bt213.2.2.2.1 bt213.2.2.2.2 0 10 200).bind fun bt224 => (if t212 = 0 then (if bt224.2 = 0 then (if bt224.1 = 25 then ((swashplatelaw07_sameFractions.f k t209 (([(⟨1, 1⟩ : S28), (⟨3, 2⟩ : S28)] : List (S28)))).bind fun t229 => (some t229)) else (some false)) else (some false)) else (some false)))) = some r := H
 have A1 := Aside0.mk A10
 clear A10
 replace H := Option.bind_eq_some_iff.mp H
 obtain ⟨⟨t213, t214, t217, t220, t223⟩, A20, H⟩ := H
 replace H : ((sling_Deepest.f t213 t214 t217 t220 t223 0 10 200).bind fun bt224 => (if t212 = 0 then (if bt224.2 = 0 then (if bt224.1 = 25 then ((swashplatelaw07_sameFractions.f k t209 (([(⟨1, 1⟩ : S28), (⟨3, 2⟩ : S28)] : List (S28)))).bind fun t229 => (some t229)) else (some false)) else (some false)) else (some false))) = some r := H
 have A2 := Aside0.mk A20
 clear A20
 replace H := Option.bind_eq_some_iff.mp H
 obtain ⟨⟨t224, t225⟩, A30, H⟩ := H
 replace H : (if t212 = 0 then (if t225 = 0 then (if t224 = 25 then ((swashplatelaw07_sameFractions.f k t209 (([(⟨1, 1⟩ : S28), (⟨3, 2⟩ : S28)] : List (S28)))).bind fun t229 => (some t229)) else (some false)) else (some false)) else (some false)) = some r := H
 have A3 := Aside0.mk A30
 clear A30
 by_cases c4 : t212 = 0
 ·
  rw [if_pos c4] at H
  have c4b0 : (t212 == 0) = true := beq_iff_eq.mpr c4
  have c4b1 : (t212 != 0) = false := bne_eq_false_iff_eq.mpr c4
  clear c4
  by_cases c5 : t225 = 0
  ·
   rw [if_pos c5] at H
   have c5b0 : (t225 == 0) = true := beq_iff_eq.mpr c5
   have c5b1 : (t225 != 0) = false := bne_eq_false_iff_eq.mpr c5
   clear c5
   by_cases c6 : t224 = 25
   ·
    rw [if_pos c6] at H
    have c6b0 : (t224 == 25) = true := beq_iff_eq.mpr c6
    have c6b1 : (t224 != 25) = false := bne_eq_false_iff_eq.mpr c6
    clear c6
    obtain ⟨y226, hy226⟩ : ∃ y_ : List (S28), y_ = (([(⟨1, 1⟩ : S28), (⟨3, 2⟩ : S28)] : List (S28))) := ⟨_, rfl⟩
    replace H : ((swashplatelaw07_sameFractions.f k t209 y226).bind fun t229 => (some t229)) = some r := by first | (rw [hy226]; with_reducible exact H) | (have H2_ := (Option.bind_some _ _).symm.trans H; rw [hy226]; with_reducible exact H2_) | (have H2_ := (Option.bind_some _ _).symm.trans H; with_reducible exact H2_) | with_reducible exact H | (rw [hy226]; exact H) | exact H
    have Ny226 := Aside0.mk hy226
    clear hy226
    replace H := Option.bind_eq_some_iff.mp H
    obtain ⟨t229, A70, H⟩ := H
    replace H : (some t229) = some r := H
    have A7 := Aside0.mk A70
    clear A70
    obtain rfl := Option.some.inj H
    go_enter Try.func75, Try.ntmps75
    go_wp2_with (first | ((with_reducible refine gate_dst (N := 8) rfl ?_); (try (refine gate_guard (by rfl) ?_; dsimp only)); refine Kd.R_lit (Kd.int .i64) _ 3 ?hg (N := 8) ?hd (xs := ([0, 1] : List Int)) (inner := [.int .i64 0, .int .i64 1]) (ok := fun _ => True) (okp := fun _ => True) ?hr ?hp (fun _ hk => hk) trivial (Below.refl _ _) (Nat.le_refl _) (by simp) ?_; (case hd => rfl); (case hg => rfl); (case hr => first | (go_simp; done) | (go_simp; rfl)); (case hp => exact (Reps.one (show Kd.M (Kd.int .i64) _ _ _ 0 [.int .i64 0] from rfl) (Reps.one (show Kd.M (Kd.int .i64) _ _ _ 1 [.int .i64 1] from rfl) (Reps.none _ _)))); intro v207 w8 ho9 hb hg_ hnew_; clear hg_ hnew_; (first | rw [← Ny206.out] at ho9 | (simp only [Int.reduceToNat] at ho9; rw [← Ny206.out] at ho9)); have n0_ := Aside0.mk (Kd.R_lower ho9 (below_size (bl_ HB.out))); have n1_ := Aside0.mk (below_step (bl_ HB.out) hb); clear HB; have HO208 := n0_; have HB := n1_; clear n0_ n1_ hb ho9; obtain ⟨Ao10, co10, eo10⟩ := Kd.R_slice HO208.out; subst eo10) | ((with_reducible refine gate_callee (f := 70) rfl ?_); refine goesL_ (some 9) rfl rfl Try.func70 (by kernel_rfl) rfl #[.agg #[.int .i64 1, .int .i64 1, .int .i64 2], .agg #[.int .i64 1, .int .i64 1], .slice Ao10 y206.length co10] rfl (by (try simp only [List.map_toArray, List.map_cons, List.map_nil]); first | done | rfl | (simp only [List.length_drop, List.length_take]; rfl)) ?_; (with_reducible refine (sling_Swing.calls 1 1 2 1 1 _ _ y206 t209 t212 _ ?side1 ?side2 A1.out).mono ?_); (case side1 => exact cr_ (Kd.R_reads' HO208.out).2.2); (case side2 => exact (Kd.R_reads' HO208.out).2.1); rintro e w11 ⟨v210, rfl, ho0, hb⟩; refine ⟨_, rfl, ?_⟩; have n0_ := Aside0.mk (Kd.R_below (by (with_reducible repeat (first | apply Kd.R_alloc | apply Kd.R_drewN | apply Kd.R_drew)); exact HO208.out) hb); have n1_ := Aside0.mk (Kd.R_lower ho0 (below_size (bl_ HB.out))); have n2_ := Aside0.mk (below_step (bl_ HB.out) hb); clear HO208 HB; have HO208 := n0_; have HO211 := n1_; have HB := n2_; clear n0_ n1_ n2_; (try clear hb); (try clear hb2); (try clear hk); (try clear hi); (try clear ho0)) | ((with_reducible refine gate_callee (f := 138) rfl ?_); refine goesL_ (some 13) rfl rfl Try.func138 (by kernel_rfl) rfl #[] rfl (by (try simp only [List.map_toArray, List.map_cons, List.map_nil]); first | done | rfl | (simp only [List.length_drop, List.length_take]; rfl)) ?_; (with_reducible refine (swashplatelaw07_Example.calls  t213 t214 t217 t220 t223 _ A2.out).mono ?_); rintro e w12 ⟨v215, v218, v221, rfl, ho0, ho1, ho2, hb⟩; refine ⟨_, rfl, ?_⟩; have n0_ := Aside0.mk (Kd.R_mono (Kd.R_told (Kd.R_told (Kd.R_old (by (with_reducible repeat (first | apply Kd.R_alloc | apply Kd.R_drewN | apply Kd.R_drew)); exact HO208.out) hb) (Kd.R_base ho0)) (Kd.R_base ho1)) (fun _ h_ => h_.1)); have n1_ := Aside0.mk (Kd.R_below (by (with_reducible repeat (first | apply Kd.R_alloc | apply Kd.R_drewN | apply Kd.R_drew)); exact HO211.out) hb); have n2_ := Aside0.mk (Kd.R_lower (Kd.R_new' (Kd.R_mono (ok' := fun k_ => some k_ ≠ (v218 : Value).ownBlock) ho0 (fun _ hk_ => hk_.2)) (Kd.R_lt (by (with_reducible repeat (first | apply Kd.R_alloc | apply Kd.R_drewN | apply Kd.R_drew)); exact HO208.out))) (below_size (bl_ HB.out))); have n3_ := Aside0.mk (Kd.R_lower (Kd.R_new' (Kd.R_mono (ok' := fun k_ => some k_ ≠ (v215 : Value).ownBlock) ho1 (fun _ hk_ => hk_.2)) (Kd.R_lt (by (with_reducible repeat (first | apply Kd.R_alloc | apply Kd.R_drewN | apply Kd.R_drew)); exact HO208.out))) (below_size (bl_ HB.out))); have n4_ := Aside0.mk (Kd.N_lower (Kd.N_mono (ok' := fun k_ => some k_ ≠ (v215 : Value).ownBlock ∧ some k_ ≠ (v218 : Value).ownBlock ∧ some k_ ≠ (.slice Ao10 y206.length co10 : Value).ownBlock ∧ some k_ ≠ (v210 : Value).ownBlock) ho2 (fun k_ hk_ => ⟨hk_.2.1, hk_.2.2, (Kd.fresh' (Kd.R_lt (by (with_reducible repeat (first | apply Kd.R_alloc | apply Kd.R_drewN | apply Kd.R_drew)); exact HO208.out)) k_ hk_.1), (Kd.fresh' (Kd.R_lt (by (with_reducible repeat (first | apply Kd.R_alloc | apply Kd.R_drewN | apply Kd.R_drew)); exact HO211.out)) k_ hk_.1)⟩)) (below_size (bl_ HB.out))); have n5_ := Aside0.mk (below_step (bl_ HB.out) hb); clear HO208 HO211 HB; have HO208 := n0_; have HO211 := n1_; have HO216 := n2_; have HO219 := n3_; have HO222 := n4_; have HB := n5_; clear n0_ n1_ n2_ n3_ n4_ n5_; (try clear hb); (try clear hb2); (try clear hk); (try clear hi); (try clear ho0); (try clear ho1); (try clear ho2); obtain ⟨Ao13, co13, eo13⟩ := Kd.R_slice HO216.out; subst eo13; obtain ⟨Ao14, co14, eo14⟩ := Kd.R_slice HO219.out; subst eo14; obtain ⟨Ao15, co15, eo15⟩ := Kd.N_slice HO222.out; subst eo15) | ((with_reducible refine gate_callee (f := 137) rfl ?_); refine goesL_ (some 15) rfl rfl Try.func137 (by kernel_rfl) rfl #[.agg #[.int .i64 t213, .slice Ao13 t214.length co13, .slice Ao14 t217.length co14, .slice Ao15 t220.length co15, .int .i64 t223], .agg #[.int .i64 0, .int .i64 10], .int .i64 200] rfl (by (try simp only [List.map_toArray, List.map_cons, List.map_nil]); first | done | rfl | (simp only [List.length_drop, List.length_take]; rfl)) ?_; (with_reducible refine (sling_Deepest.calls t213 _ _ t214 _ _ t217 _ _ t220 t223 0 10 200 t224 t225 _ ?side1 ?side2 ?side3 ?side4 ?side5 ?side6 A3.out).mono ?_); (case side1 => exact cr_ (Kd.R_reads' HO216.out).2.2); (case side2 => exact (Kd.R_reads' HO216.out).2.1); (case side3 => exact cr_ (Kd.R_reads' HO219.out).2.2); (case side4 => exact (Kd.R_reads' HO219.out).2.1); (case side5 => exact cr_ (Kd.N_reads' HO222.out).2.2); (case side6 => exact (Kd.N_reads' HO222.out).2.1); rintro e w16 ⟨rfl, hb⟩; refine ⟨_, rfl, ?_⟩; have n0_ := Aside0.mk (Kd.R_below (by (with_reducible repeat (first | apply Kd.R_alloc | apply Kd.R_drewN | apply Kd.R_drew)); exact HO208.out) hb); have n1_ := Aside0.mk (Kd.R_below (by (with_reducible repeat (first | apply Kd.R_alloc | apply Kd.R_drewN | apply Kd.R_drew)); exact HO211.out) hb); have n2_ := Aside0.mk (Kd.R_below (by (with_reducible repeat (first | apply Kd.R_alloc | apply Kd.R_drewN | apply Kd.R_drew)); exact HO216.out) hb); have n3_ := Aside0.mk (Kd.R_below (by (with_reducible repeat (first | apply Kd.R_alloc | apply Kd.R_drewN | apply Kd.R_drew)); exact HO219.out) hb); have n4_ := Aside0.mk (Kd.N_below (by (with_reducible repeat (first | apply Kd.N_alloc | apply Kd.N_drewN | apply Kd.N_drew)); exact HO222.out) hb); have n5_ := Aside0.mk (below_step (bl_ HB.out) hb); clear HO208 HO211 HO216 HO219 HO222 HB; have HO208 := n0_; have HO211 := n1_; have HO216 := n2_; have HO219 := n3_; have HO222 := n4_; have HB := n5_; clear n0_ n1_ n2_ n3_ n4_ n5_; (try clear hb); (try clear hb2); (try clear hk); (try clear hi)) | ((with_reducible refine gate_dst (N := 32) rfl ?_); (try (refine gate_guard (by rfl) ?_; dsimp only)); refine Kd.R_lit k28 _ 28 ?hg (N := 32) ?hd (xs := ([(⟨1, 1⟩ : S28), (⟨3, 2⟩ : S28)] : List (S28))) (inner := [.int .i64 1, .int .i64 1, .int .i64 3, .int .i64 2]) (ok := fun _ => True) (okp := fun _ => True) ?hr ?hp (fun _ hk => hk) trivial (Below.refl _ _) (Nat.le_refl _) (by simp) ?_; (case hd => rfl); (case hg => rfl); (case hr => first | (go_simp; done) | (go_simp; rfl)); (case hp => exact (Reps.c2 (show Kd.M k28 _ _ _ (⟨1, 1⟩ : S28) [.int .i64 1, .int .i64 1] from (k28_mkM _ _ _ (⟨1, 1⟩ : S28) )) (Reps.c2 (show Kd.M k28 _ _ _ (⟨3, 2⟩ : S28) [.int .i64 3, .int .i64 2] from (k28_mkM _ _ _ (⟨3, 2⟩ : S28) )) (Reps.none _ _)))); intro v227 w17 ho18 hb hg_ hnew_; clear hg_ hnew_; (first | rw [← Ny226.out] at ho18 | (simp only [Int.reduceToNat] at ho18; rw [← Ny226.out] at ho18)); have n0_ := Aside0.mk (Kd.R_below (by (with_reducible repeat (first | apply Kd.R_alloc | apply Kd.R_drewN | apply Kd.R_drew)); exact HO208.out) hb); have n1_ := Aside0.mk (Kd.R_elder' (by (with_reducible repeat (first | apply Kd.R_alloc | apply Kd.R_drewN | apply Kd.R_drew)); exact HO211.out) (Kd.R_base ho18) hb); have n2_ := Aside0.mk (Kd.R_below (by (with_reducible repeat (first | apply Kd.R_alloc | apply Kd.R_drewN | apply Kd.R_drew)); exact HO216.out) hb); have n3_ := Aside0.mk (Kd.R_below (by (with_reducible repeat (first | apply Kd.R_alloc | apply Kd.R_drewN | apply Kd.R_drew)); exact HO219.out) hb); have n4_ := Aside0.mk (Kd.N_elder' (by (with_reducible repeat (first | apply Kd.N_alloc | apply Kd.N_drewN | apply Kd.N_drew)); exact HO222.out) (Kd.R_base ho18) hb); have n5_ := Aside0.mk (Kd.R_lower (Kd.R_new' ho18 (Kd.R_lt (by (with_reducible repeat (first | apply Kd.R_alloc | apply Kd.R_drewN | apply Kd.R_drew)); exact HO211.out))) (below_size (bl_ HB.out))); have n6_ := Aside0.mk (below_step (bl_ HB.out) hb); clear HO208 HO211 HO216 HO219 HO222 HB; have HO208 := n0_; have HO211 := n1_; have HO216 := n2_; have HO219 := n3_; have HO222 := n4_; have HO228 := n5_; have HB := n6_; clear n0_ n1_ n2_ n3_ n4_ n5_ n6_ hb ho18; obtain ⟨Ao19, co19, eo19⟩ := Kd.R_slice HO211.out; subst eo19; obtain ⟨Ao20, co20, eo20⟩ := Kd.R_slice HO228.out; subst eo20) | (go_at_call 72; (with_reducible refine (swashplatelaw07_sameFractions.calls k _ _ t209 _ _ y226 t229 _ ?side1 ?side2 ?side3 ?side4 A7.out).mono ?_); (case side1 => exact cr_ (Kd.R_reads' HO211.out).2.2); (case side2 => exact (Kd.R_reads' HO211.out).2.1); (case side3 => exact cr_ (Kd.R_reads' HO228.out).2.2); (case side4 => exact (Kd.R_reads' HO228.out).2.1); rintro e w' ⟨rfl, ⟨nd, rfl⟩⟩))
    go_ret
    exact ⟨by first | rfl | (simp [errW_none, errW_some] <;> rfl) | (simp [*, errW_none, errW_some] <;> rfl), bl_ HB.out⟩
   ·
    rw [if_neg c6] at H
    have c6b0 : (t224 == 25) = false := beq_eq_false_iff_ne.mpr c6
    have c6b1 : (t224 != 25) = true := bne_iff_ne.mpr c6
    obtain rfl := Option.some.inj H
    go_enter Try.func75, Try.ntmps75
    go_wp2_with (first | ((with_reducible refine gate_dst (N := 8) rfl ?_); (try (refine gate_guard (by rfl) ?_; dsimp only)); refine Kd.R_lit (Kd.int .i64) _ 3 ?hg (N := 8) ?hd (xs := ([0, 1] : List Int)) (inner := [.int .i64 0, .int .i64 1]) (ok := fun _ => True) (okp := fun _ => True) ?hr ?hp (fun _ hk => hk) trivial (Below.refl _ _) (Nat.le_refl _) (by simp) ?_; (case hd => rfl); (case hg => rfl); (case hr => first | (go_simp; done) | (go_simp; rfl)); (case hp => exact (Reps.one (show Kd.M (Kd.int .i64) _ _ _ 0 [.int .i64 0] from rfl) (Reps.one (show Kd.M (Kd.int .i64) _ _ _ 1 [.int .i64 1] from rfl) (Reps.none _ _)))); intro v207 w21 ho22 hb hg_ hnew_; clear hg_ hnew_; (first | rw [← Ny206.out] at ho22 | (simp only [Int.reduceToNat] at ho22; rw [← Ny206.out] at ho22)); have n0_ := Aside0.mk (Kd.R_lower ho22 (below_size (bl_ HB.out))); have n1_ := Aside0.mk (below_step (bl_ HB.out) hb); clear HB; have HO208 := n0_; have HB := n1_; clear n0_ n1_ hb ho22; obtain ⟨Ao23, co23, eo23⟩ := Kd.R_slice HO208.out; subst eo23) | ((with_reducible refine gate_callee (f := 70) rfl ?_); refine goesL_ (some 9) rfl rfl Try.func70 (by kernel_rfl) rfl #[.agg #[.int .i64 1, .int .i64 1, .int .i64 2], .agg #[.int .i64 1, .int .i64 1], .slice Ao23 y206.length co23] rfl (by (try simp only [List.map_toArray, List.map_cons, List.map_nil]); first | done | rfl | (simp only [List.length_drop, List.length_take]; rfl)) ?_; (with_reducible refine (sling_Swing.calls 1 1 2 1 1 _ _ y206 t209 t212 _ ?side1 ?side2 A1.out).mono ?_); (case side1 => exact cr_ (Kd.R_reads' HO208.out).2.2); (case side2 => exact (Kd.R_reads' HO208.out).2.1); rintro e w24 ⟨v210, rfl, ho0, hb⟩; refine ⟨_, rfl, ?_⟩; have n0_ := Aside0.mk (Kd.R_below (by (with_reducible repeat (first | apply Kd.R_alloc | apply Kd.R_drewN | apply Kd.R_drew)); exact HO208.out) hb); have n1_ := Aside0.mk (Kd.R_lower ho0 (below_size (bl_ HB.out))); have n2_ := Aside0.mk (below_step (bl_ HB.out) hb); clear HO208 HB; have HO208 := n0_; have HO211 := n1_; have HB := n2_; clear n0_ n1_ n2_; (try clear hb); (try clear hb2); (try clear hk); (try clear hi); (try clear ho0)) | ((with_reducible refine gate_callee (f := 138) rfl ?_); refine goesL_ (some 13) rfl rfl Try.func138 (by kernel_rfl) rfl #[] rfl (by (try simp only [List.map_toArray, List.map_cons, List.map_nil]); first | done | rfl | (simp only [List.length_drop, List.length_take]; rfl)) ?_; (with_reducible refine (swashplatelaw07_Example.calls  t213 t214 t217 t220 t223 _ A2.out).mono ?_); rintro e w25 ⟨v215, v218, v221, rfl, ho0, ho1, ho2, hb⟩; refine ⟨_, rfl, ?_⟩; have n0_ := Aside0.mk (Kd.R_mono (Kd.R_told (Kd.R_told (Kd.R_old (by (with_reducible repeat (first | apply Kd.R_alloc | apply Kd.R_drewN | apply Kd.R_drew)); exact HO208.out) hb) (Kd.R_base ho0)) (Kd.R_base ho1)) (fun _ h_ => h_.1)); have n1_ := Aside0.mk (Kd.R_below (by (with_reducible repeat (first | apply Kd.R_alloc | apply Kd.R_drewN | apply Kd.R_drew)); exact HO211.out) hb); have n2_ := Aside0.mk (Kd.R_lower (Kd.R_new' (Kd.R_mono (ok' := fun k_ => some k_ ≠ (v218 : Value).ownBlock) ho0 (fun _ hk_ => hk_.2)) (Kd.R_lt (by (with_reducible repeat (first | apply Kd.R_alloc | apply Kd.R_drewN | apply Kd.R_drew)); exact HO208.out))) (below_size (bl_ HB.out))); have n3_ := Aside0.mk (Kd.R_lower (Kd.R_new' (Kd.R_mono (ok' := fun k_ => some k_ ≠ (v215 : Value).ownBlock) ho1 (fun _ hk_ => hk_.2)) (Kd.R_lt (by (with_reducible repeat (first | apply Kd.R_alloc | apply Kd.R_drewN | apply Kd.R_drew)); exact HO208.out))) (below_size (bl_ HB.out))); have n4_ := Aside0.mk (Kd.N_lower (Kd.N_mono (ok' := fun k_ => some k_ ≠ (v215 : Value).ownBlock ∧ some k_ ≠ (v218 : Value).ownBlock ∧ some k_ ≠ (.slice Ao23 y206.length co23 : Value).ownBlock ∧ some k_ ≠ (v210 : Value).ownBlock) ho2 (fun k_ hk_ => ⟨hk_.2.1, hk_.2.2, (Kd.fresh' (Kd.R_lt (by (with_reducible repeat (first | apply Kd.R_alloc | apply Kd.R_drewN | apply Kd.R_drew)); exact HO208.out)) k_ hk_.1), (Kd.fresh' (Kd.R_lt (by (with_reducible repeat (first | apply Kd.R_alloc | apply Kd.R_drewN | apply Kd.R_drew)); exact HO211.out)) k_ hk_.1)⟩)) (below_size (bl_ HB.out))); have n5_ := Aside0.mk (below_step (bl_ HB.out) hb); clear HO208 HO211 HB; have HO208 := n0_; have HO211 := n1_; have HO216 := n2_; have HO219 := n3_; have HO222 := n4_; have HB := n5_; clear n0_ n1_ n2_ n3_ n4_ n5_; (try clear hb); (try clear hb2); (try clear hk); (try clear hi); (try clear ho0); (try clear ho1); (try clear ho2); obtain ⟨Ao26, co26, eo26⟩ := Kd.R_slice HO216.out; subst eo26; obtain ⟨Ao27, co27, eo27⟩ := Kd.R_slice HO219.out; subst eo27; obtain ⟨Ao28, co28, eo28⟩ := Kd.N_slice HO222.out; subst eo28) | ((with_reducible refine gate_callee (f := 137) rfl ?_); refine goesL_ (some 15) rfl rfl Try.func137 (by kernel_rfl) rfl #[.agg #[.int .i64 t213, .slice Ao26 t214.length co26, .slice Ao27 t217.length co27, .slice Ao28 t220.length co28, .int .i64 t223], .agg #[.int .i64 0, .int .i64 10], .int .i64 200] rfl (by (try simp only [List.map_toArray, List.map_cons, List.map_nil]); first | done | rfl | (simp only [List.length_drop, List.length_take]; rfl)) ?_; (with_reducible refine (sling_Deepest.calls t213 _ _ t214 _ _ t217 _ _ t220 t223 0 10 200 t224 t225 _ ?side1 ?side2 ?side3 ?side4 ?side5 ?side6 A3.out).mono ?_); (case side1 => exact cr_ (Kd.R_reads' HO216.out).2.2); (case side2 => exact (Kd.R_reads' HO216.out).2.1); (case side3 => exact cr_ (Kd.R_reads' HO219.out).2.2); (case side4 => exact (Kd.R_reads' HO219.out).2.1); (case side5 => exact cr_ (Kd.N_reads' HO222.out).2.2); (case side6 => exact (Kd.N_reads' HO222.out).2.1); rintro e w29 ⟨rfl, hb⟩; refine ⟨_, rfl, ?_⟩; have n0_ := Aside0.mk (Kd.R_below (by (with_reducible repeat (first | apply Kd.R_alloc | apply Kd.R_drewN | apply Kd.R_drew)); exact HO208.out) hb); have n1_ := Aside0.mk (Kd.R_below (by (with_reducible repeat (first | apply Kd.R_alloc | apply Kd.R_drewN | apply Kd.R_drew)); exact HO211.out) hb); have n2_ := Aside0.mk (Kd.R_below (by (with_reducible repeat (first | apply Kd.R_alloc | apply Kd.R_drewN | apply Kd.R_drew)); exact HO216.out) hb); have n3_ := Aside0.mk (Kd.R_below (by (with_reducible repeat (first | apply Kd.R_alloc | apply Kd.R_drewN | apply Kd.R_drew)); exact HO219.out) hb); have n4_ := Aside0.mk (Kd.N_below (by (with_reducible repeat (first | apply Kd.N_alloc | apply Kd.N_drewN | apply Kd.N_drew)); exact HO222.out) hb); have n5_ := Aside0.mk (below_step (bl_ HB.out) hb); clear HO208 HO211 HO216 HO219 HO222 HB; have HO208 := n0_; have HO211 := n1_; have HO216 := n2_; have HO219 := n3_; have HO222 := n4_; have HB := n5_; clear n0_ n1_ n2_ n3_ n4_ n5_; (try clear hb); (try clear hb2); (try clear hk); (try clear hi)))
    go_ret
    exact ⟨by first | rfl | (simp [errW_none, errW_some] <;> rfl) | (simp [*, errW_none, errW_some] <;> rfl), bl_ HB.out⟩
  ·
   rw [if_neg c5] at H
   have c5b0 : (t225 == 0) = false := beq_eq_false_iff_ne.mpr c5
   have c5b1 : (t225 != 0) = true := bne_iff_ne.mpr c5
   obtain rfl := Option.some.inj H
   go_enter Try.func75, Try.ntmps75
   go_wp2_with (first | ((with_reducible refine gate_dst (N := 8) rfl ?_); (try (refine gate_guard (by rfl) ?_; dsimp only)); refine Kd.R_lit (Kd.int .i64) _ 3 ?hg (N := 8) ?hd (xs := ([0, 1] : List Int)) (inner := [.int .i64 0, .int .i64 1]) (ok := fun _ => True) (okp := fun _ => True) ?hr ?hp (fun _ hk => hk) trivial (Below.refl _ _) (Nat.le_refl _) (by simp) ?_; (case hd => rfl); (case hg => rfl); (case hr => first | (go_simp; done) | (go_simp; rfl)); (case hp => exact (Reps.one (show Kd.M (Kd.int .i64) _ _ _ 0 [.int .i64 0] from rfl) (Reps.one (show Kd.M (Kd.int .i64) _ _ _ 1 [.int .i64 1] from rfl) (Reps.none _ _)))); intro v207 w30 ho31 hb hg_ hnew_; clear hg_ hnew_; (first | rw [← Ny206.out] at ho31 | (simp only [Int.reduceToNat] at ho31; rw [← Ny206.out] at ho31)); have n0_ := Aside0.mk (Kd.R_lower ho31 (below_size (bl_ HB.out))); have n1_ := Aside0.mk (below_step (bl_ HB.out) hb); clear HB; have HO208 := n0_; have HB := n1_; clear n0_ n1_ hb ho31; obtain ⟨Ao32, co32, eo32⟩ := Kd.R_slice HO208.out; subst eo32) | ((with_reducible refine gate_callee (f := 70) rfl ?_); refine goesL_ (some 9) rfl rfl Try.func70 (by kernel_rfl) rfl #[.agg #[.int .i64 1, .int .i64 1, .int .i64 2], .agg #[.int .i64 1, .int .i64 1], .slice Ao32 y206.length co32] rfl (by (try simp only [List.map_toArray, List.map_cons, List.map_nil]); first | done | rfl | (simp only [List.length_drop, List.length_take]; rfl)) ?_; (with_reducible refine (sling_Swing.calls 1 1 2 1 1 _ _ y206 t209 t212 _ ?side1 ?side2 A1.out).mono ?_); (case side1 => exact cr_ (Kd.R_reads' HO208.out).2.2); (case side2 => exact (Kd.R_reads' HO208.out).2.1); rintro e w33 ⟨v210, rfl, ho0, hb⟩; refine ⟨_, rfl, ?_⟩; have n0_ := Aside0.mk (Kd.R_below (by (with_reducible repeat (first | apply Kd.R_alloc | apply Kd.R_drewN | apply Kd.R_drew)); exact HO208.out) hb); have n1_ := Aside0.mk (Kd.R_lower ho0 (below_size (bl_ HB.out))); have n2_ := Aside0.mk (below_step (bl_ HB.out) hb); clear HO208 HB; have HO208 := n0_; have HO211 := n1_; have HB := n2_; clear n0_ n1_ n2_; (try clear hb); (try clear hb2); (try clear hk); (try clear hi); (try clear ho0)) | ((with_reducible refine gate_callee (f := 138) rfl ?_); refine goesL_ (some 13) rfl rfl Try.func138 (by kernel_rfl) rfl #[] rfl (by (try simp only [List.map_toArray, List.map_cons, List.map_nil]); first | done | rfl | (simp only [List.length_drop, List.length_take]; rfl)) ?_; (with_reducible refine (swashplatelaw07_Example.calls  t213 t214 t217 t220 t223 _ A2.out).mono ?_); rintro e w34 ⟨v215, v218, v221, rfl, ho0, ho1, ho2, hb⟩; refine ⟨_, rfl, ?_⟩; have n0_ := Aside0.mk (Kd.R_mono (Kd.R_told (Kd.R_told (Kd.R_old (by (with_reducible repeat (first | apply Kd.R_alloc | apply Kd.R_drewN | apply Kd.R_drew)); exact HO208.out) hb) (Kd.R_base ho0)) (Kd.R_base ho1)) (fun _ h_ => h_.1)); have n1_ := Aside0.mk (Kd.R_below (by (with_reducible repeat (first | apply Kd.R_alloc | apply Kd.R_drewN | apply Kd.R_drew)); exact HO211.out) hb); have n2_ := Aside0.mk (Kd.R_lower (Kd.R_new' (Kd.R_mono (ok' := fun k_ => some k_ ≠ (v218 : Value).ownBlock) ho0 (fun _ hk_ => hk_.2)) (Kd.R_lt (by (with_reducible repeat (first | apply Kd.R_alloc | apply Kd.R_drewN | apply Kd.R_drew)); exact HO208.out))) (below_size (bl_ HB.out))); have n3_ := Aside0.mk (Kd.R_lower (Kd.R_new' (Kd.R_mono (ok' := fun k_ => some k_ ≠ (v215 : Value).ownBlock) ho1 (fun _ hk_ => hk_.2)) (Kd.R_lt (by (with_reducible repeat (first | apply Kd.R_alloc | apply Kd.R_drewN | apply Kd.R_drew)); exact HO208.out))) (below_size (bl_ HB.out))); have n4_ := Aside0.mk (Kd.N_lower (Kd.N_mono (ok' := fun k_ => some k_ ≠ (v215 : Value).ownBlock ∧ some k_ ≠ (v218 : Value).ownBlock ∧ some k_ ≠ (.slice Ao32 y206.length co32 : Value).ownBlock ∧ some k_ ≠ (v210 : Value).ownBlock) ho2 (fun k_ hk_ => ⟨hk_.2.1, hk_.2.2, (Kd.fresh' (Kd.R_lt (by (with_reducible repeat (first | apply Kd.R_alloc | apply Kd.R_drewN | apply Kd.R_drew)); exact HO208.out)) k_ hk_.1), (Kd.fresh' (Kd.R_lt (by (with_reducible repeat (first | apply Kd.R_alloc | apply Kd.R_drewN | apply Kd.R_drew)); exact HO211.out)) k_ hk_.1)⟩)) (below_size (bl_ HB.out))); have n5_ := Aside0.mk (below_step (bl_ HB.out) hb); clear HO208 HO211 HB; have HO208 := n0_; have HO211 := n1_; have HO216 := n2_; have HO219 := n3_; have HO222 := n4_; have HB := n5_; clear n0_ n1_ n2_ n3_ n4_ n5_; (try clear hb); (try clear hb2); (try clear hk); (try clear hi); (try clear ho0); (try clear ho1); (try clear ho2); obtain ⟨Ao35, co35, eo35⟩ := Kd.R_slice HO216.out; subst eo35; obtain ⟨Ao36, co36, eo36⟩ := Kd.R_slice HO219.out; subst eo36; obtain ⟨Ao37, co37, eo37⟩ := Kd.N_slice HO222.out; subst eo37) | ((with_reducible refine gate_callee (f := 137) rfl ?_); refine goesL_ (some 15) rfl rfl Try.func137 (by kernel_rfl) rfl #[.agg #[.int .i64 t213, .slice Ao35 t214.length co35, .slice Ao36 t217.length co36, .slice Ao37 t220.length co37, .int .i64 t223], .agg #[.int .i64 0, .int .i64 10], .int .i64 200] rfl (by (try simp only [List.map_toArray, List.map_cons, List.map_nil]); first | done | rfl | (simp only [List.length_drop, List.length_take]; rfl)) ?_; (with_reducible refine (sling_Deepest.calls t213 _ _ t214 _ _ t217 _ _ t220 t223 0 10 200 t224 t225 _ ?side1 ?side2 ?side3 ?side4 ?side5 ?side6 A3.out).mono ?_); (case side1 => exact cr_ (Kd.R_reads' HO216.out).2.2); (case side2 => exact (Kd.R_reads' HO216.out).2.1); (case side3 => exact cr_ (Kd.R_reads' HO219.out).2.2); (case side4 => exact (Kd.R_reads' HO219.out).2.1); (case side5 => exact cr_ (Kd.N_reads' HO222.out).2.2); (case side6 => exact (Kd.N_reads' HO222.out).2.1); rintro e w38 ⟨rfl, hb⟩; refine ⟨_, rfl, ?_⟩; have n0_ := Aside0.mk (Kd.R_below (by (with_reducible repeat (first | apply Kd.R_alloc | apply Kd.R_drewN | apply Kd.R_drew)); exact HO208.out) hb); have n1_ := Aside0.mk (Kd.R_below (by (with_reducible repeat (first | apply Kd.R_alloc | apply Kd.R_drewN | apply Kd.R_drew)); exact HO211.out) hb); have n2_ := Aside0.mk (Kd.R_below (by (with_reducible repeat (first | apply Kd.R_alloc | apply Kd.R_drewN | apply Kd.R_drew)); exact HO216.out) hb); have n3_ := Aside0.mk (Kd.R_below (by (with_reducible repeat (first | apply Kd.R_alloc | apply Kd.R_drewN | apply Kd.R_drew)); exact HO219.out) hb); have n4_ := Aside0.mk (Kd.N_below (by (with_reducible repeat (first | apply Kd.N_alloc | apply Kd.N_drewN | apply Kd.N_drew)); exact HO222.out) hb); have n5_ := Aside0.mk (below_step (bl_ HB.out) hb); clear HO208 HO211 HO216 HO219 HO222 HB; have HO208 := n0_; have HO211 := n1_; have HO216 := n2_; have HO219 := n3_; have HO222 := n4_; have HB := n5_; clear n0_ n1_ n2_ n3_ n4_ n5_; (try clear hb); (try clear hb2); (try clear hk); (try clear hi)))
   go_ret
   exact ⟨by first | rfl | (simp [errW_none, errW_some] <;> rfl) | (simp [*, errW_none, errW_some] <;> rfl), bl_ HB.out⟩
 ·
  rw [if_neg c4] at H
  have c4b0 : (t212 == 0) = false := beq_eq_false_iff_ne.mpr c4
  have c4b1 : (t212 != 0) = true := bne_iff_ne.mpr c4
  obtain rfl := Option.some.inj H
  go_enter Try.func75, Try.ntmps75
  go_wp2_with (first | ((with_reducible refine gate_dst (N := 8) rfl ?_); (try (refine gate_guard (by rfl) ?_; dsimp only)); refine Kd.R_lit (Kd.int .i64) _ 3 ?hg (N := 8) ?hd (xs := ([0, 1] : List Int)) (inner := [.int .i64 0, .int .i64 1]) (ok := fun _ => True) (okp := fun _ => True) ?hr ?hp (fun _ hk => hk) trivial (Below.refl _ _) (Nat.le_refl _) (by simp) ?_; (case hd => rfl); (case hg => rfl); (case hr => first | (go_simp; done) | (go_simp; rfl)); (case hp => exact (Reps.one (show Kd.M (Kd.int .i64) _ _ _ 0 [.int .i64 0] from rfl) (Reps.one (show Kd.M (Kd.int .i64) _ _ _ 1 [.int .i64 1] from rfl) (Reps.none _ _)))); intro v207 w39 ho40 hb hg_ hnew_; clear hg_ hnew_; (first | rw [← Ny206.out] at ho40 | (simp only [Int.reduceToNat] at ho40; rw [← Ny206.out] at ho40)); have n0_ := Aside0.mk (Kd.R_lower ho40 (below_size (bl_ HB.out))); have n1_ := Aside0.mk (below_step (bl_ HB.out) hb); clear HB; have HO208 := n0_; have HB := n1_; clear n0_ n1_ hb ho40; obtain ⟨Ao41, co41, eo41⟩ := Kd.R_slice HO208.out; subst eo41) | ((with_reducible refine gate_callee (f := 70) rfl ?_); refine goesL_ (some 9) rfl rfl Try.func70 (by kernel_rfl) rfl #[.agg #[.int .i64 1, .int .i64 1, .int .i64 2], .agg #[.int .i64 1, .int .i64 1], .slice Ao41 y206.length co41] rfl (by (try simp only [List.map_toArray, List.map_cons, List.map_nil]); first | done | rfl | (simp only [List.length_drop, List.length_take]; rfl)) ?_; (with_reducible refine (sling_Swing.calls 1 1 2 1 1 _ _ y206 t209 t212 _ ?side1 ?side2 A1.out).mono ?_); (case side1 => exact cr_ (Kd.R_reads' HO208.out).2.2); (case side2 => exact (Kd.R_reads' HO208.out).2.1); rintro e w42 ⟨v210, rfl, ho0, hb⟩; refine ⟨_, rfl, ?_⟩; have n0_ := Aside0.mk (Kd.R_below (by (with_reducible repeat (first | apply Kd.R_alloc | apply Kd.R_drewN | apply Kd.R_drew)); exact HO208.out) hb); have n1_ := Aside0.mk (Kd.R_lower ho0 (below_size (bl_ HB.out))); have n2_ := Aside0.mk (below_step (bl_ HB.out) hb); clear HO208 HB; have HO208 := n0_; have HO211 := n1_; have HB := n2_; clear n0_ n1_ n2_; (try clear hb); (try clear hb2); (try clear hk); (try clear hi); (try clear ho0)) | ((with_reducible refine gate_callee (f := 138) rfl ?_); refine goesL_ (some 13) rfl rfl Try.func138 (by kernel_rfl) rfl #[] rfl (by (try simp only [List.map_toArray, List.map_cons, List.map_nil]); first | done | rfl | (simp only [List.length_drop, List.length_take]; rfl)) ?_; (with_reducible refine (swashplatelaw07_Example.calls  t213 t214 t217 t220 t223 _ A2.out).mono ?_); rintro e w43 ⟨v215, v218, v221, rfl, ho0, ho1, ho2, hb⟩; refine ⟨_, rfl, ?_⟩; have n0_ := Aside0.mk (Kd.R_mono (Kd.R_told (Kd.R_told (Kd.R_old (by (with_reducible repeat (first | apply Kd.R_alloc | apply Kd.R_drewN | apply Kd.R_drew)); exact HO208.out) hb) (Kd.R_base ho0)) (Kd.R_base ho1)) (fun _ h_ => h_.1)); have n1_ := Aside0.mk (Kd.R_below (by (with_reducible repeat (first | apply Kd.R_alloc | apply Kd.R_drewN | apply Kd.R_drew)); exact HO211.out) hb); have n2_ := Aside0.mk (Kd.R_lower (Kd.R_new' (Kd.R_mono (ok' := fun k_ => some k_ ≠ (v218 : Value).ownBlock) ho0 (fun _ hk_ => hk_.2)) (Kd.R_lt (by (with_reducible repeat (first | apply Kd.R_alloc | apply Kd.R_drewN | apply Kd.R_drew)); exact HO208.out))) (below_size (bl_ HB.out))); have n3_ := Aside0.mk (Kd.R_lower (Kd.R_new' (Kd.R_mono (ok' := fun k_ => some k_ ≠ (v215 : Value).ownBlock) ho1 (fun _ hk_ => hk_.2)) (Kd.R_lt (by (with_reducible repeat (first | apply Kd.R_alloc | apply Kd.R_drewN | apply Kd.R_drew)); exact HO208.out))) (below_size (bl_ HB.out))); have n4_ := Aside0.mk (Kd.N_lower (Kd.N_mono (ok' := fun k_ => some k_ ≠ (v215 : Value).ownBlock ∧ some k_ ≠ (v218 : Value).ownBlock ∧ some k_ ≠ (.slice Ao41 y206.length co41 : Value).ownBlock ∧ some k_ ≠ (v210 : Value).ownBlock) ho2 (fun k_ hk_ => ⟨hk_.2.1, hk_.2.2, (Kd.fresh' (Kd.R_lt (by (with_reducible repeat (first | apply Kd.R_alloc | apply Kd.R_drewN | apply Kd.R_drew)); exact HO208.out)) k_ hk_.1), (Kd.fresh' (Kd.R_lt (by (with_reducible repeat (first | apply Kd.R_alloc | apply Kd.R_drewN | apply Kd.R_drew)); exact HO211.out)) k_ hk_.1)⟩)) (below_size (bl_ HB.out))); have n5_ := Aside0.mk (below_step (bl_ HB.out) hb); clear HO208 HO211 HB; have HO208 := n0_; have HO211 := n1_; have HO216 := n2_; have HO219 := n3_; have HO222 := n4_; have HB := n5_; clear n0_ n1_ n2_ n3_ n4_ n5_; (try clear hb); (try clear hb2); (try clear hk); (try clear hi); (try clear ho0); (try clear ho1); (try clear ho2); obtain ⟨Ao44, co44, eo44⟩ := Kd.R_slice HO216.out; subst eo44; obtain ⟨Ao45, co45, eo45⟩ := Kd.R_slice HO219.out; subst eo45; obtain ⟨Ao46, co46, eo46⟩ := Kd.N_slice HO222.out; subst eo46) | ((with_reducible refine gate_callee (f := 137) rfl ?_); refine goesL_ (some 15) rfl rfl Try.func137 (by kernel_rfl) rfl #[.agg #[.int .i64 t213, .slice Ao44 t214.length co44, .slice Ao45 t217.length co45, .slice Ao46 t220.length co46, .int .i64 t223], .agg #[.int .i64 0, .int .i64 10], .int .i64 200] rfl (by (try simp only [List.map_toArray, List.map_cons, List.map_nil]); first | done | rfl | (simp only [List.length_drop, List.length_take]; rfl)) ?_; (with_reducible refine (sling_Deepest.calls t213 _ _ t214 _ _ t217 _ _ t220 t223 0 10 200 t224 t225 _ ?side1 ?side2 ?side3 ?side4 ?side5 ?side6 A3.out).mono ?_); (case side1 => exact cr_ (Kd.R_reads' HO216.out).2.2); (case side2 => exact (Kd.R_reads' HO216.out).2.1); (case side3 => exact cr_ (Kd.R_reads' HO219.out).2.2); (case side4 => exact (Kd.R_reads' HO219.out).2.1); (case side5 => exact cr_ (Kd.N_reads' HO222.out).2.2); (case side6 => exact (Kd.N_reads' HO222.out).2.1); rintro e w47 ⟨rfl, hb⟩; refine ⟨_, rfl, ?_⟩; have n0_ := Aside0.mk (Kd.R_below (by (with_reducible repeat (first | apply Kd.R_alloc | apply Kd.R_drewN | apply Kd.R_drew)); exact HO208.out) hb); have n1_ := Aside0.mk (Kd.R_below (by (with_reducible repeat (first | apply Kd.R_alloc | apply Kd.R_drewN | apply Kd.R_drew)); exact HO211.out) hb); have n2_ := Aside0.mk (Kd.R_below (by (with_reducible repeat (first | apply Kd.R_alloc | apply Kd.R_drewN | apply Kd.R_drew)); exact HO216.out) hb); have n3_ := Aside0.mk (Kd.R_below (by (with_reducible repeat (first | apply Kd.R_alloc | apply Kd.R_drewN | apply Kd.R_drew)); exact HO219.out) hb); have n4_ := Aside0.mk (Kd.N_below (by (with_reducible repeat (first | apply Kd.N_alloc | apply Kd.N_drewN | apply Kd.N_drew)); exact HO222.out) hb); have n5_ := Aside0.mk (below_step (bl_ HB.out) hb); clear HO208 HO211 HO216 HO219 HO222 HB; have HO208 := n0_; have HO211 := n1_; have HO216 := n2_; have HO219 := n3_; have HO222 := n4_; have HB := n5_; clear n0_ n1_ n2_ n3_ n4_ n5_; (try clear hb); (try clear hb2); (try clear hk); (try clear hi)))
  go_ret
  exact ⟨by first | rfl | (simp [errW_none, errW_some] <;> rfl) | (simp [*, errW_none, errW_some] <;> rfl), bl_ HB.out⟩
end Go.Proofs.Yteodlmgmmpkpoaa.PS
end
section
namespace Go.Proofs.Yteodlmgmmpkpoaa.PS
open Go.RowKit Go.Proofs.YteodlmgmmpkpoaaW.PrintWords Go.Proofs.YteodlmgmmpkpoaaW.PrintLast Go.Proofs.YteodlmgmmpkpoaaW.PrintMore
set_option linter.unusedVariables false
set_option linter.unusedSimpArgs false
theorem sameF_loop (l : List S28) (hl : l.length ≤ 1000) : ∀ (r i : Nat), i ≤ l.length → l.length - i = r → ∀ k, r < k → swashplatelaw07_sameFractions.l0 k l l i = some true := by
  intro r
  induction r with
  | zero =>
    intro i hi hr k hk
    obtain ⟨k, rfl⟩ : ∃ j, k = j + 1 := ⟨k - 1, by omega⟩
    unfold swashplatelaw07_sameFractions.l0
    rw [if_neg (by omega)]
  | succ r ih =>
    intro i hi hr k hk
    obtain ⟨k, rfl⟩ : ∃ j, k = j + 1 := ⟨k - 1, by omega⟩
    unfold swashplatelaw07_sameFractions.l0
    rw [if_pos (by omega), if_pos (by omega), if_pos (by omega), if_neg (by simp), step64 i (by omega)]
    exact ih (i + 1) (by omega) (by omega) k (by omega)
theorem sameF_total (l : List S28) (hl : l.length ≤ 1000) (k : Nat) (hk : 1000 < k) : swashplatelaw07_sameFractions.f k l l = some true := by
  unfold swashplatelaw07_sameFractions.f
  rw [if_pos rfl]
  exact sameF_loop l hl l.length 0 (by omega) (by omega) k (by omega)
theorem swing_ex : sling_Swing.f 1 1 2 1 1 [0, 1] = some ([⟨1, 1⟩, ⟨3, 2⟩], 0) := by kernel_rfl
theorem works7_total (k : Nat) (hk : 1000 < k) : swashplatelaw07_works.f k = some true := by
  unfold swashplatelaw07_works.f
  rw [swing_ex, Option.bind_some]
  unfold swashplatelaw07_Example.f
  rw [Option.bind_some]
  unfold sling_Deepest.f
  rw [if_pos (by simp), Option.bind_some, if_pos rfl, if_pos rfl, if_pos rfl, sameF_total _ (by simp) k hk]
  rfl
end Go.Proofs.Yteodlmgmmpkpoaa.PS
end
section
namespace Go.Proofs.Yteodlmgmmpkpoaa.PS
open Go.RowKit Go.Proofs.YteodlmgmmpkpoaaW.PrintWords Go.Proofs.YteodlmgmmpkpoaaW.PrintLast Go.Proofs.YteodlmgmmpkpoaaW.PrintMore
set_option linter.unusedVariables false
set_option linter.unusedSimpArgs false
theorem boxes_none (w : World) : Calls Try.prog 174 #[.slice none 0 0] w fun e w' => e = .returned (.slice none 0 0) ∧ w = w' := by
  go_enter Try.func174, Try.ntmps174
  go_wp2
  go_loop [2, 7] (fun u v => u = .slice none 0 0 ∧ v = .int .i64 0) (fun _ _ => 0)
  case atStart => exact ⟨rfl, rfl⟩
  case round =>
    obtain ⟨rfl, rfl⟩ := hrel
    go_wp2
    go_ret
    exact ⟨rfl, rfl⟩
def seC (n m D : Int) (A : Option Addr) (k c : Nat) (g0 g1 : Int) : Array Value := #[.int .i64 n, .int .i64 m, .int .i64 D, .slice A k c, .int .i64 g0, .int .i64 g1]
theorem endT_high (p lo hi : Int) : endT p lo hi true = if p > 0 then hi else lo := by
  unfold endT
  by_cases h : p > 0
  · have : (p != 0) = true := by simp; omega
    simp [h, this]
  · simp [h]
theorem endT_low (p lo hi : Int) : endT p lo hi false = if p < 0 then hi else lo := by
  unfold endT
  by_cases h : p < 0
  · have : (p != 0) = true := by simp; omega
    have h2 : ¬ p > 0 := by omega
    simp [h, h2, this]
  · by_cases h2 : p > 0
    · simp [h, h2]
    · obtain rfl : p = 0 := by omega
      simp
theorem end_calls (p lo hi : Int) (high : Bool) (w : World) : Calls Try.prog 148 #[.int .i64 p, .agg #[.int .i64 lo, .int .i64 hi], .bool high] w fun e w' => e = .returned (.int .i64 (endT p lo hi high)) ∧ Below w.heap.size w w' := by
  obtain ⟨r, hr⟩ : ∃ r, endT p lo hi high = r := ⟨_, rfl⟩
  rw [hr]
  cases high
  all_goals first | rw [endT_high] at hr | rw [endT_low] at hr
  all_goals rcases (show p > 0 ∨ p < 0 ∨ p = 0 by omega) with h | h | h
  all_goals
    have hr' : r = hi ∨ r = lo := by rw [← hr]; split <;> simp
    first
    | (rw [if_pos (by omega)] at hr)
    | (rw [if_neg (by omega)] at hr)
    subst hr
    first
    | (have d0 : decide (p > 0) = true := decide_eq_true (by omega)
       have d1 : (p != 0) = true := by simp; omega
       clear h hr'
       go_enter Try.func148, Try.ntmps148
       go_wp2
       go_ret
       exact ⟨rfl, below_alloc (Below.refl _ _) _⟩)
    | (have d0 : decide (p > 0) = false := decide_eq_false (by omega)
       have d1 : (p != 0) = true := by simp; omega
       clear h hr'
       go_enter Try.func148, Try.ntmps148
       go_wp2
       go_ret
       exact ⟨rfl, below_alloc (Below.refl _ _) _⟩)
    | (have d0 : decide (p > 0) = false := decide_eq_false (by omega)
       have d1 : (p != 0) = false := by simp; omega
       clear h hr'
       go_enter Try.func148, Try.ntmps148
       go_wp2
       go_ret
       exact ⟨rfl, below_alloc (Below.refl _ _) _⟩)
end Go.Proofs.Yteodlmgmmpkpoaa.PS
end
section
namespace Go.Proofs.Yteodlmgmmpkpoaa.PS
open Go.RowKit Go.Proofs.YteodlmgmmpkpoaaW.PrintWords Go.Proofs.YteodlmgmmpkpoaaW.PrintLast Go.Proofs.YteodlmgmmpkpoaaW.PrintMore
attribute [local go_sem] max2_int min2_int max_two min_two max_three min_three max_four min_four   -- for this text's walks alone
set_option linter.unusedVariables false
set_option linter.unusedSimpArgs false
def swashplateref07_inside.f (a0_0 : Int) (a0_1 : Int) (a1 : Int) : Option (Bool) := if a0_0 ≥ (wrap64 (-a1)) then (some (decide (a0_1 ≤ a1))) else (some false)
set_option maxHeartbeats 8000000 in
set_option maxRecDepth 100000 in
theorem swashplateref07_inside.calls (a0_0 : Int) (a0_1 : Int) (a1 : Int) (r : Bool) (w : World) (h : swashplateref07_inside.f a0_0 a0_1 a1 = some r) :
  Calls Try.prog 189 #[.agg #[.int .i64 a0_0, .int .i64 a0_1], .int .i64 a1] w fun e w' => e = .returned (.bool r) ∧ Below w.heap.size w w' := by
 have hu27 := Try.underlying27
 have HB := Aside0.mk (Below.refl w.heap.size w)
 have H : (if a0_0 ≥ (wrap64 (-a1)) then (some (decide (a0_1 ≤ a1))) else (some false)) = some r := h
 clear h
 by_cases c3 : a0_0 ≥ (wrap64 (-a1))
 ·
  rw [if_pos c3] at H
  have c3b0 : decide ((wrap64 (-a1)) ≤ a0_0) = true := decide_eq_true c3
  clear c3
  obtain rfl := Option.some.inj H
  go_enter Try.func189, Try.ntmps189
  go_wp2_with (first | ((with_reducible refine gate_dst (N := 2) rfl ?_); refine box_event ?hg (N := 2) ?hd (cs := #[.int .i64 a0_0, .int .i64 a0_1]) (t := 27) ?hr ?_; (case hd => rfl); (case hg => rfl); (case hr => first | (go_simp; done) | (go_simp; rfl)); intro gb269 hg w4 hbox hb; have n0_ := Aside0.mk (below_step (bl_ HB.out) hb); have n1_ := Aside0.mk (hbox); have n2_ := Aside0.mk (szl_ hg HB.out); have n3_ := Aside0.mk (szl_ hg HB.out); clear HB; have HB := n0_; have BK269 := n1_; have GW269 := n2_; have GE269 := n3_; clear n0_ n1_ n2_ n3_ hb hbox hg; have hcz5_0 : w4.cell? ⟨gb269, 0, none⟩ = some (.int .i64 a0_0) := (blk_cell BK269.out 0).trans rfl; have hcz5_1 : w4.cell? ⟨gb269, 1, none⟩ = some (.int .i64 a0_1) := (blk_cell BK269.out 1).trans rfl; have hfz5_0 := blk_frozen BK269.out 0; have hfz5_1 := blk_frozen BK269.out 1))
  go_ret
  exact ⟨by first | rfl | (simp [errW_none, errW_some] <;> rfl) | (simp [*, errW_none, errW_some] <;> rfl), bl_ HB.out⟩
 ·
  rw [if_neg c3] at H
  have c3b0 : decide ((wrap64 (-a1)) ≤ a0_0) = false := decide_eq_false c3
  clear c3
  obtain rfl := Option.some.inj H
  go_enter Try.func189, Try.ntmps189
  go_wp2_with (first | ((with_reducible refine gate_dst (N := 2) rfl ?_); refine box_event ?hg (N := 2) ?hd (cs := #[.int .i64 a0_0, .int .i64 a0_1]) (t := 27) ?hr ?_; (case hd => rfl); (case hg => rfl); (case hr => first | (go_simp; done) | (go_simp; rfl)); intro gb269 hg w6 hbox hb; have n0_ := Aside0.mk (below_step (bl_ HB.out) hb); have n1_ := Aside0.mk (hbox); have n2_ := Aside0.mk (szl_ hg HB.out); have n3_ := Aside0.mk (szl_ hg HB.out); clear HB; have HB := n0_; have BK269 := n1_; have GW269 := n2_; have GE269 := n3_; clear n0_ n1_ n2_ n3_ hb hbox hg; have hcz7_0 : w6.cell? ⟨gb269, 0, none⟩ = some (.int .i64 a0_0) := (blk_cell BK269.out 0).trans rfl; have hcz7_1 : w6.cell? ⟨gb269, 1, none⟩ = some (.int .i64 a0_1) := (blk_cell BK269.out 1).trans rfl; have hfz7_0 := blk_frozen BK269.out 0; have hfz7_1 := blk_frozen BK269.out 1))
  go_ret
  exact ⟨by first | rfl | (simp [errW_none, errW_some] <;> rfl) | (simp [*, errW_none, errW_some] <;> rfl), bl_ HB.out⟩
end Go.Proofs.Yteodlmgmmpkpoaa.PS
end
section
namespace Go.Proofs.Yteodlmgmmpkpoaa.PS
open Go.RowKit Go.Proofs.YteodlmgmmpkpoaaW.PrintWords Go.Proofs.YteodlmgmmpkpoaaW.PrintLast Go.Proofs.YteodlmgmmpkpoaaW.PrintMore
attribute [local go_sem] max2_int min2_int max_two min_two max_three min_three max_four min_four   -- for this text's walks alone
set_option linter.unusedVariables false
set_option linter.unusedSimpArgs false
def swashplateref07_checkNumbers.f (l0 : List (S27)) (a1_0 : Int) (a1_1 : Int) (a2 : Int) : Option (Int) := if (l0.length : Int) = 2 then (if 0 < (l0.length : Int) then ((swashplateref07_inside.f ((rd_T27 l0 0).f0) ((rd_T27 l0 0).f1) 1000).bind fun t272 => (if t272 = true then (if 1 < (l0.length : Int) then ((swashplateref07_inside.f ((rd_T27 l0 1).f0) ((rd_T27 l0 1).f1) 1000).bind fun t274 => (if t274 = true then ((swashplateref07_inside.f a1_0 a1_1 100).bind fun t275 => (if t275 = true then ((swashplateref07_within.f a2 0 16).bind fun t276 => (if t276 = true then (some 0) else (some 1))) else (some 1))) else (some 1))) else (none)) else (some 1))) else (none)) else (some 1)
set_option maxHeartbeats 8000000 in
set_option maxRecDepth 100000 in
theorem swashplateref07_checkNumbers.calls (A0 : Option Addr) (c0 : Nat) (l0 : List (S27)) (a1_0 : Int) (a1_1 : Int) (a2 : Int) (r : Int) (w : World) (hr0 : Kd.C k27 w A0 l0.length l0) (hc0 : l0.length ≤ c0) (h : swashplateref07_checkNumbers.f l0 a1_0 a1_1 a2 = some r) :
  Calls Try.prog 175 #[.slice A0 l0.length c0, .agg #[.int .i64 a1_0, .int .i64 a1_1], .int .i64 a2] w fun e w' => e = .returned (.int .i64 r) ∧ Below w.heap.size w w' := by
 have hu27 := Try.underlying27
 have HR0 := Aside0.mk hr0
 have HC0 := Aside0.mk hc0
 clear hr0 hc0
 have HB := Aside0.mk (Below.refl w.heap.size w)
 have H : (if (l0.length : Int) = 2 then (if 0 < (l0.length : Int) then ((swashplateref07_inside.f ((rd_T27 l0 0).f0) ((rd_T27 l0 0).f1) 1000).bind fun t272 => (if t272 = true then (if 1 < (l0.length : Int) then ((swashplateref07_inside.f ((rd_T27 l0 1).f0) ((rd_T27 l0 1).f1) 1000).bind fun t274 => (if t274 = true then ((swashplateref07_inside.f a1_0 a1_1 100).bind fun t275 => (if t275 = true then ((swashplateref07_within.f a2 0 16).bind fun t276 => (if t276 = true then (some 0) else (some 1))) else (some 1))) else (some 1))) else (none)) else (some 1))) else (none)) else (some 1)) = some r := h
 clear h
 by_cases c4 : (l0.length : Int) = 2
 ·
  rw [if_pos c4] at H
  have c4b0 : ((l0.length : Int) == 2) = true := beq_iff_eq.mpr c4
  have c4b1 : ((l0.length : Int) != 2) = false := bne_eq_false_iff_eq.mpr c4
  clear c4
  by_cases c5 : 0 < (l0.length : Int)
  ·
   rw [if_pos c5] at H
   have c5b0 : decide (0 < (l0.length : Int)) = true := decide_eq_true c5
   have c5b1 : decide (0 < l0.length) = true := decide_eq_true (by omega)
   clear c5
   replace H := Option.bind_eq_some_iff.mp H
   obtain ⟨t272, A60, H⟩ := H
   replace H : (if t272 = true then (if 1 < (l0.length : Int) then ((swashplateref07_inside.f ((rd_T27 l0 1).f0) ((rd_T27 l0 1).f1) 1000).bind fun t274 => (if t274 = true then ((swashplateref07_inside.f a1_0 a1_1 100).bind fun t275 => (if t275 = true then ((swashplateref07_within.f a2 0 16).bind fun t276 => (if t276 = true then (some 0) else (some 1))) else (some 1))) else (some 1))) else (none)) else (some 1)) = some r := H
   have A6 := Aside0.mk A60
   clear A60
   by_cases c7 : t272 = true
   ·
    subst c7
    have H1 : (if 1 < (l0.length : Int) then ((swashplateref07_inside.f ((rd_T27 l0 1).f0) ((rd_T27 l0 1).f1) 1000).bind fun t274 => (if t274 = true then ((swashplateref07_inside.f a1_0 a1_1 100).bind fun t275 => (if t275 = true then ((swashplateref07_within.f a2 0 16).bind fun t276 => (if t276 = true then (some 0) else (some 1))) else (some 1))) else (some 1))) else (none)) = some r := by rw [if_pos rfl] at H; exact H
    clear H
    have H := H1
    clear H1
    by_cases c8 : 1 < (l0.length : Int)
    ·
     rw [if_pos c8] at H
     have c8b0 : decide (1 < (l0.length : Int)) = true := decide_eq_true c8
     have c8b1 : decide (1 < l0.length) = true := decide_eq_true (by omega)
     clear c8
     replace H := Option.bind_eq_some_iff.mp H
     obtain ⟨t274, A90, H⟩ := H
     replace H : (if t274 = true then ((swashplateref07_inside.f a1_0 a1_1 100).bind fun t275 => (if t275 = true then ((swashplateref07_within.f a2 0 16).bind fun t276 => (if t276 = true then (some 0) else (some 1))) else (some 1))) else (some 1)) = some r := H
     have A9 := Aside0.mk A90
     clear A90
     by_cases c10 : t274 = true
     ·
      subst c10
      have H1 : ((swashplateref07_inside.f a1_0 a1_1 100).bind fun t275 => (if t275 = true then ((swashplateref07_within.f a2 0 16).bind fun t276 => (if t276 = true then (some 0) else (some 1))) else (some 1))) = some r := by rw [if_pos rfl] at H; exact H
      clear H
      have H := H1
      clear H1
      replace H := Option.bind_eq_some_iff.mp H
      obtain ⟨t275, A110, H⟩ := H
      replace H : (if t275 = true then ((swashplateref07_within.f a2 0 16).bind fun t276 => (if t276 = true then (some 0) else (some 1))) else (some 1)) = some r := H
      have A11 := Aside0.mk A110
      clear A110
      by_cases c12 : t275 = true
      ·
       subst c12
       have H1 : ((swashplateref07_within.f a2 0 16).bind fun t276 => (if t276 = true then (some 0) else (some 1))) = some r := by rw [if_pos rfl] at H; exact H
       clear H
       have H := H1
       clear H1
       replace H := Option.bind_eq_some_iff.mp H
       obtain ⟨t276, A130, H⟩ := H
       replace H : (if t276 = true then (some 0) else (some 1)) = some r := H
       have A13 := Aside0.mk A130
       clear A130
       by_cases c14 : t276 = true
       ·
        subst c14
        have H1 : (some 0) = some r := by rw [if_pos rfl] at H; exact H
        clear H
        have H := H1
        clear H1
        obtain rfl := Option.some.inj H
        go_enter Try.func175, Try.ntmps175
        go_wp2_with (first | ((with_reducible refine gate_dst (N := 4) rfl ?_); refine box_event ?hg (N := 4) ?hd (cs := #[.int .i64 a1_0, .int .i64 a1_1]) (t := 27) ?hr ?_; (case hd => rfl); (case hg => rfl); (case hr => first | (go_simp; done) | (go_simp; rfl)); intro gb270 hg w15 hbox hb; have n0_ := Aside0.mk (below_step (bl_ HB.out) hb); have n1_ := Aside0.mk (hbox); have n2_ := Aside0.mk (szl_ hg HB.out); have n3_ := Aside0.mk (szl_ hg HB.out); clear HB; have HB := n0_; have BK270 := n1_; have GW270 := n2_; have GE270 := n3_; clear n0_ n1_ n2_ n3_ hb hbox hg; have p271 : 0 ≤ (0 : Int) := (by omega); have q271 : 0 < (l0.length : Int) := of_decide_eq_true (by first | (with_reducible assumption) | assumption); obtain ⟨ad271, e271, hx271_0, hx271_1⟩ := at_T27 HR0.out 0 p271 q271; cases e271; have qi271 : (0 < l0.length) = True := eq_true (by omega); (try rw [show ((0 : Int)).toNat = 0 from rfl] at hx271_0); (try rw [show 0 * 2 = 0 from rfl] at hx271_0); (try rw [Addr.add_zero'] at hx271_0); (try rw [show ((0 : Int)).toNat = 0 from rfl] at hx271_1); (try rw [show 0 * 2 = 0 from rfl] at hx271_1); (try rw [Addr.add_zero'] at hx271_1); replace hx271_0 := (HB.out.cell (World.block_lt_of_cell? w _ hx271_0)).trans hx271_0; replace hx271_1 := (HB.out.cell (World.block_lt_of_cell? w _ hx271_1)).trans hx271_1; replace p271 := eq_true p271; replace q271 := eq_true q271) | (go_at_call 189; (with_reducible refine (swashplateref07_inside.calls ((rd_T27 l0 0).f0) ((rd_T27 l0 0).f1) 1000 true _ A6.out).mono ?_); rintro e w16 ⟨rfl, hb⟩; have n0_ := Aside0.mk (blk_below (bk_ BK270.out) hb); have n1_ := Aside0.mk (below_step (bl_ HB.out) hb); clear BK270 HB; have BK270 := n0_; have HB := n1_; clear n0_ n1_; (try clear hb); (try clear hb2); (try clear hk); (try clear hi); have p273 : 0 ≤ (1 : Int) := (by omega); have q273 : 1 < (l0.length : Int) := of_decide_eq_true (by first | (with_reducible assumption) | assumption); obtain ⟨ad273, e273, hx273_0, hx273_1⟩ := at_T27 HR0.out 1 p273 q273; obtain rfl : ad271 = ad273 := (by injection e273); (try simp only [show (1 : Int).toNat = 1 from rfl, Nat.reduceMul, Nat.reduceEqDiff, Go.Addr.add, ↓reduceIte] at hx273_0); (try simp only [show (1 : Int).toNat = 1 from rfl, Nat.reduceMul, Nat.reduceEqDiff, Go.Addr.add, ↓reduceIte] at hx273_1); have qi273 : (1 < l0.length) = True := eq_true (by omega); (try rw [show ((1 : Int)).toNat = 1 from rfl] at hx273_0); (try rw [show 1 * 2 = 2 from rfl] at hx273_0); (try rw [show ((1 : Int)).toNat = 1 from rfl] at hx273_1); (try rw [show 1 * 2 = 2 from rfl] at hx273_1); replace hx273_0 := (HB.out.cell (World.block_lt_of_cell? w _ hx273_0)).trans hx273_0; replace hx273_1 := (HB.out.cell (World.block_lt_of_cell? w _ hx273_1)).trans hx273_1; replace p273 := eq_true p273; replace q273 := eq_true q273) | (go_at_call 189; (with_reducible refine (swashplateref07_inside.calls ((rd_T27 l0 1).f0) ((rd_T27 l0 1).f1) 1000 true _ A9.out).mono ?_); rintro e w17 ⟨rfl, hb⟩; have n0_ := Aside0.mk (blk_below (bk_ BK270.out) hb); have n1_ := Aside0.mk (below_step (bl_ HB.out) hb); clear BK270 HB; have BK270 := n0_; have HB := n1_; clear n0_ n1_; (try clear hb); (try clear hb2); (try clear hk); (try clear hi); have hcz18_0 : w17.cell? ⟨gb270, 0, none⟩ = some (.int .i64 a1_0) := (blk_cell BK270.out 0).trans rfl; have hcz18_1 : w17.cell? ⟨gb270, 1, none⟩ = some (.int .i64 a1_1) := (blk_cell BK270.out 1).trans rfl; have hfz18_0 := blk_frozen BK270.out 0; have hfz18_1 := blk_frozen BK270.out 1) | (go_at_call 189; (with_reducible refine (swashplateref07_inside.calls a1_0 a1_1 100 true _ A11.out).mono ?_); rintro e w19 ⟨rfl, hb⟩; have n0_ := Aside0.mk (blk_below (bk_ BK270.out) hb); have n1_ := Aside0.mk (below_step (bl_ HB.out) hb); clear BK270 HB; have BK270 := n0_; have HB := n1_; clear n0_ n1_; (try clear hb); (try clear hb2); (try clear hk); (try clear hi)) | (go_at_call 128; (with_reducible refine (swashplateref07_within.calls a2 0 16 true _ A13.out).mono ?_); rintro e w' ⟨rfl, ⟨nd, rfl⟩⟩))
        go_ret
        exact ⟨by first | rfl | (simp [errW_none, errW_some] <;> rfl) | (simp [*, errW_none, errW_some] <;> rfl), bl_ HB.out⟩
       ·
        replace c14 := Bool.eq_false_iff.mpr c14
        subst c14
        have H1 : (some 1) = some r := by rw [if_neg (show ¬ (false = true) by decide)] at H; exact H
        clear H
        have H := H1
        clear H1
        obtain rfl := Option.some.inj H
        go_enter Try.func175, Try.ntmps175
        go_wp2_with (first | ((with_reducible refine gate_dst (N := 4) rfl ?_); refine box_event ?hg (N := 4) ?hd (cs := #[.int .i64 a1_0, .int .i64 a1_1]) (t := 27) ?hr ?_; (case hd => rfl); (case hg => rfl); (case hr => first | (go_simp; done) | (go_simp; rfl)); intro gb270 hg w20 hbox hb; have n0_ := Aside0.mk (below_step (bl_ HB.out) hb); have n1_ := Aside0.mk (hbox); have n2_ := Aside0.mk (szl_ hg HB.out); have n3_ := Aside0.mk (szl_ hg HB.out); clear HB; have HB := n0_; have BK270 := n1_; have GW270 := n2_; have GE270 := n3_; clear n0_ n1_ n2_ n3_ hb hbox hg; have p271 : 0 ≤ (0 : Int) := (by omega); have q271 : 0 < (l0.length : Int) := of_decide_eq_true (by first | (with_reducible assumption) | assumption); obtain ⟨ad271, e271, hx271_0, hx271_1⟩ := at_T27 HR0.out 0 p271 q271; cases e271; have qi271 : (0 < l0.length) = True := eq_true (by omega); (try rw [show ((0 : Int)).toNat = 0 from rfl] at hx271_0); (try rw [show 0 * 2 = 0 from rfl] at hx271_0); (try rw [Addr.add_zero'] at hx271_0); (try rw [show ((0 : Int)).toNat = 0 from rfl] at hx271_1); (try rw [show 0 * 2 = 0 from rfl] at hx271_1); (try rw [Addr.add_zero'] at hx271_1); replace hx271_0 := (HB.out.cell (World.block_lt_of_cell? w _ hx271_0)).trans hx271_0; replace hx271_1 := (HB.out.cell (World.block_lt_of_cell? w _ hx271_1)).trans hx271_1; replace p271 := eq_true p271; replace q271 := eq_true q271) | (go_at_call 189; (with_reducible refine (swashplateref07_inside.calls ((rd_T27 l0 0).f0) ((rd_T27 l0 0).f1) 1000 true _ A6.out).mono ?_); rintro e w21 ⟨rfl, hb⟩; have n0_ := Aside0.mk (blk_below (bk_ BK270.out) hb); have n1_ := Aside0.mk (below_step (bl_ HB.out) hb); clear BK270 HB; have BK270 := n0_; have HB := n1_; clear n0_ n1_; (try clear hb); (try clear hb2); (try clear hk); (try clear hi); have p273 : 0 ≤ (1 : Int) := (by omega); have q273 : 1 < (l0.length : Int) := of_decide_eq_true (by first | (with_reducible assumption) | assumption); obtain ⟨ad273, e273, hx273_0, hx273_1⟩ := at_T27 HR0.out 1 p273 q273; obtain rfl : ad271 = ad273 := (by injection e273); (try simp only [show (1 : Int).toNat = 1 from rfl, Nat.reduceMul, Nat.reduceEqDiff, Go.Addr.add, ↓reduceIte] at hx273_0); (try simp only [show (1 : Int).toNat = 1 from rfl, Nat.reduceMul, Nat.reduceEqDiff, Go.Addr.add, ↓reduceIte] at hx273_1); have qi273 : (1 < l0.length) = True := eq_true (by omega); (try rw [show ((1 : Int)).toNat = 1 from rfl] at hx273_0); (try rw [show 1 * 2 = 2 from rfl] at hx273_0); (try rw [show ((1 : Int)).toNat = 1 from rfl] at hx273_1); (try rw [show 1 * 2 = 2 from rfl] at hx273_1); replace hx273_0 := (HB.out.cell (World.block_lt_of_cell? w _ hx273_0)).trans hx273_0; replace hx273_1 := (HB.out.cell (World.block_lt_of_cell? w _ hx273_1)).trans hx273_1; replace p273 := eq_true p273; replace q273 := eq_true q273) | (go_at_call 189; (with_reducible refine (swashplateref07_inside.calls ((rd_T27 l0 1).f0) ((rd_T27 l0 1).f1) 1000 true _ A9.out).mono ?_); rintro e w22 ⟨rfl, hb⟩; have n0_ := Aside0.mk (blk_below (bk_ BK270.out) hb); have n1_ := Aside0.mk (below_step (bl_ HB.out) hb); clear BK270 HB; have BK270 := n0_; have HB := n1_; clear n0_ n1_; (try clear hb); (try clear hb2); (try clear hk); (try clear hi); have hcz23_0 : w22.cell? ⟨gb270, 0, none⟩ = some (.int .i64 a1_0) := (blk_cell BK270.out 0).trans rfl; have hcz23_1 : w22.cell? ⟨gb270, 1, none⟩ = some (.int .i64 a1_1) := (blk_cell BK270.out 1).trans rfl; have hfz23_0 := blk_frozen BK270.out 0; have hfz23_1 := blk_frozen BK270.out 1) | (go_at_call 189; (with_reducible refine (swashplateref07_inside.calls a1_0 a1_1 100 true _ A11.out).mono ?_); rintro e w24 ⟨rfl, hb⟩; have n0_ := Aside0.mk (blk_below (bk_ BK270.out) hb); have n1_ := Aside0.mk (below_step (bl_ HB.out) hb); clear BK270 HB; have BK270 := n0_; have HB := n1_; clear n0_ n1_; (try clear hb); (try clear hb2); (try clear hk); (try clear hi)) | (go_at_call 128; (with_reducible refine (swashplateref07_within.calls a2 0 16 false _ A13.out).mono ?_); rintro e w' ⟨rfl, ⟨nd, rfl⟩⟩))
        go_ret
        exact ⟨by first | rfl | (simp [errW_none, errW_some] <;> rfl) | (simp [*, errW_none, errW_some] <;> rfl), bl_ HB.out⟩
      ·
       replace c12 := Bool.eq_false_iff.mpr c12
       subst c12
       have H1 : (some 1) = some r := by rw [if_neg (show ¬ (false = true) by decide)] at H; exact H
       clear H
       have H := H1
       clear H1
       obtain rfl := Option.some.inj H
       go_enter Try.func175, Try.ntmps175
       go_wp2_with (first | ((with_reducible refine gate_dst (N := 4) rfl ?_); refine box_event ?hg (N := 4) ?hd (cs := #[.int .i64 a1_0, .int .i64 a1_1]) (t := 27) ?hr ?_; (case hd => rfl); (case hg => rfl); (case hr => first | (go_simp; done) | (go_simp; rfl)); intro gb270 hg w25 hbox hb; have n0_ := Aside0.mk (below_step (bl_ HB.out) hb); have n1_ := Aside0.mk (hbox); have n2_ := Aside0.mk (szl_ hg HB.out); have n3_ := Aside0.mk (szl_ hg HB.out); clear HB; have HB := n0_; have BK270 := n1_; have GW270 := n2_; have GE270 := n3_; clear n0_ n1_ n2_ n3_ hb hbox hg; have p271 : 0 ≤ (0 : Int) := (by omega); have q271 : 0 < (l0.length : Int) := of_decide_eq_true (by first | (with_reducible assumption) | assumption); obtain ⟨ad271, e271, hx271_0, hx271_1⟩ := at_T27 HR0.out 0 p271 q271; cases e271; have qi271 : (0 < l0.length) = True := eq_true (by omega); (try rw [show ((0 : Int)).toNat = 0 from rfl] at hx271_0); (try rw [show 0 * 2 = 0 from rfl] at hx271_0); (try rw [Addr.add_zero'] at hx271_0); (try rw [show ((0 : Int)).toNat = 0 from rfl] at hx271_1); (try rw [show 0 * 2 = 0 from rfl] at hx271_1); (try rw [Addr.add_zero'] at hx271_1); replace hx271_0 := (HB.out.cell (World.block_lt_of_cell? w _ hx271_0)).trans hx271_0; replace hx271_1 := (HB.out.cell (World.block_lt_of_cell? w _ hx271_1)).trans hx271_1; replace p271 := eq_true p271; replace q271 := eq_true q271) | (go_at_call 189; (with_reducible refine (swashplateref07_inside.calls ((rd_T27 l0 0).f0) ((rd_T27 l0 0).f1) 1000 true _ A6.out).mono ?_); rintro e w26 ⟨rfl, hb⟩; have n0_ := Aside0.mk (blk_below (bk_ BK270.out) hb); have n1_ := Aside0.mk (below_step (bl_ HB.out) hb); clear BK270 HB; have BK270 := n0_; have HB := n1_; clear n0_ n1_; (try clear hb); (try clear hb2); (try clear hk); (try clear hi); have p273 : 0 ≤ (1 : Int) := (by omega); have q273 : 1 < (l0.length : Int) := of_decide_eq_true (by first | (with_reducible assumption) | assumption); obtain ⟨ad273, e273, hx273_0, hx273_1⟩ := at_T27 HR0.out 1 p273 q273; obtain rfl : ad271 = ad273 := (by injection e273); (try simp only [show (1 : Int).toNat = 1 from rfl, Nat.reduceMul, Nat.reduceEqDiff, Go.Addr.add, ↓reduceIte] at hx273_0); (try simp only [show (1 : Int).toNat = 1 from rfl, Nat.reduceMul, Nat.reduceEqDiff, Go.Addr.add, ↓reduceIte] at hx273_1); have qi273 : (1 < l0.length) = True := eq_true (by omega); (try rw [show ((1 : Int)).toNat = 1 from rfl] at hx273_0); (try rw [show 1 * 2 = 2 from rfl] at hx273_0); (try rw [show ((1 : Int)).toNat = 1 from rfl] at hx273_1); (try rw [show 1 * 2 = 2 from rfl] at hx273_1); replace hx273_0 := (HB.out.cell (World.block_lt_of_cell? w _ hx273_0)).trans hx273_0; replace hx273_1 := (HB.out.cell (World.block_lt_of_cell? w _ hx273_1)).trans hx273_1; replace p273 := eq_true p273; replace q273 := eq_true q273) | (go_at_call 189; (with_reducible refine (swashplateref07_inside.calls ((rd_T27 l0 1).f0) ((rd_T27 l0 1).f1) 1000 true _ A9.out).mono ?_); rintro e w27 ⟨rfl, hb⟩; have n0_ := Aside0.mk (blk_below (bk_ BK270.out) hb); have n1_ := Aside0.mk (below_step (bl_ HB.out) hb); clear BK270 HB; have BK270 := n0_; have HB := n1_; clear n0_ n1_; (try clear hb); (try clear hb2); (try clear hk); (try clear hi); have hcz28_0 : w27.cell? ⟨gb270, 0, none⟩ = some (.int .i64 a1_0) := (blk_cell BK270.out 0).trans rfl; have hcz28_1 : w27.cell? ⟨gb270, 1, none⟩ = some (.int .i64 a1_1) := (blk_cell BK270.out 1).trans rfl; have hfz28_0 := blk_frozen BK270.out 0; have hfz28_1 := blk_frozen BK270.out 1) | (go_at_call 189; (with_reducible refine (swashplateref07_inside.calls a1_0 a1_1 100 false _ A11.out).mono ?_); rintro e w29 ⟨rfl, hb⟩; have n0_ := Aside0.mk (blk_below (bk_ BK270.out) hb); have n1_ := Aside0.mk (below_step (bl_ HB.out) hb); clear BK270 HB; have BK270 := n0_; have HB := n1_; clear n0_ n1_; (try clear hb); (try clear hb2); (try clear hk); (try clear hi)))
       go_ret
       exact ⟨by first | rfl | (simp [errW_none, errW_some] <;> rfl) | (simp [*, errW_none, errW_some] <;> rfl), bl_ HB.out⟩
     ·
      replace c10 := Bool.eq_false_iff.mpr c10
      subst c10
      have H1 : (some 1) = some r := by rw [if_neg (show ¬ (false = true) by decide)] at H; exact H
      clear H
      have H := H1
      clear H1
      obtain rfl := Option.some.inj H
      go_enter Try.func175, Try.ntmps175
      go_wp2_with (first | ((with_reducible refine gate_dst (N := 4) rfl ?_); refine box_event ?hg (N := 4) ?hd (cs := #[.int .i64 a1_0, .int .i64 a1_1]) (t := 27) ?hr ?_; (case hd => rfl); (case hg => rfl); (case hr => first | (go_simp; done) | (go_simp; rfl)); intro gb270 hg w30 hbox hb; have n0_ := Aside0.mk (below_step (bl_ HB.out) hb); have n1_ := Aside0.mk (hbox); have n2_ := Aside0.mk (szl_ hg HB.out); have n3_ := Aside0.mk (szl_ hg HB.out); clear HB; have HB := n0_; have BK270 := n1_; have GW270 := n2_; have GE270 := n3_; clear n0_ n1_ n2_ n3_ hb hbox hg; have p271 : 0 ≤ (0 : Int) := (by omega); have q271 : 0 < (l0.length : Int) := of_decide_eq_true (by first | (with_reducible assumption) | assumption); obtain ⟨ad271, e271, hx271_0, hx271_1⟩ := at_T27 HR0.out 0 p271 q271; cases e271; have qi271 : (0 < l0.length) = True := eq_true (by omega); (try rw [show ((0 : Int)).toNat = 0 from rfl] at hx271_0); (try rw [show 0 * 2 = 0 from rfl] at hx271_0); (try rw [Addr.add_zero'] at hx271_0); (try rw [show ((0 : Int)).toNat = 0 from rfl] at hx271_1); (try rw [show 0 * 2 = 0 from rfl] at hx271_1); (try rw [Addr.add_zero'] at hx271_1); replace hx271_0 := (HB.out.cell (World.block_lt_of_cell? w _ hx271_0)).trans hx271_0; replace hx271_1 := (HB.out.cell (World.block_lt_of_cell? w _ hx271_1)).trans hx271_1; replace p271 := eq_true p271; replace q271 := eq_true q271) | (go_at_call 189; (with_reducible refine (swashplateref07_inside.calls ((rd_T27 l0 0).f0) ((rd_T27 l0 0).f1) 1000 true _ A6.out).mono ?_); rintro e w31 ⟨rfl, hb⟩; have n0_ := Aside0.mk (blk_below (bk_ BK270.out) hb); have n1_ := Aside0.mk (below_step (bl_ HB.out) hb); clear BK270 HB; have BK270 := n0_; have HB := n1_; clear n0_ n1_; (try clear hb); (try clear hb2); (try clear hk); (try clear hi); have p273 : 0 ≤ (1 : Int) := (by omega); have q273 : 1 < (l0.length : Int) := of_decide_eq_true (by first | (with_reducible assumption) | assumption); obtain ⟨ad273, e273, hx273_0, hx273_1⟩ := at_T27 HR0.out 1 p273 q273; obtain rfl : ad271 = ad273 := (by injection e273); (try simp only [show (1 : Int).toNat = 1 from rfl, Nat.reduceMul, Nat.reduceEqDiff, Go.Addr.add, ↓reduceIte] at hx273_0); (try simp only [show (1 : Int).toNat = 1 from rfl, Nat.reduceMul, Nat.reduceEqDiff, Go.Addr.add, ↓reduceIte] at hx273_1); have qi273 : (1 < l0.length) = True := eq_true (by omega); (try rw [show ((1 : Int)).toNat = 1 from rfl] at hx273_0); (try rw [show 1 * 2 = 2 from rfl] at hx273_0); (try rw [show ((1 : Int)).toNat = 1 from rfl] at hx273_1); (try rw [show 1 * 2 = 2 from rfl] at hx273_1); replace hx273_0 := (HB.out.cell (World.block_lt_of_cell? w _ hx273_0)).trans hx273_0; replace hx273_1 := (HB.out.cell (World.block_lt_of_cell? w _ hx273_1)).trans hx273_1; replace p273 := eq_true p273; replace q273 := eq_true q273) | (go_at_call 189; (with_reducible refine (swashplateref07_inside.calls ((rd_T27 l0 1).f0) ((rd_T27 l0 1).f1) 1000 false _ A9.out).mono ?_); rintro e w32 ⟨rfl, hb⟩; have n0_ := Aside0.mk (blk_below (bk_ BK270.out) hb); have n1_ := Aside0.mk (below_step (bl_ HB.out) hb); clear BK270 HB; have BK270 := n0_; have HB := n1_; clear n0_ n1_; (try clear hb); (try clear hb2); (try clear hk); (try clear hi)))
      go_ret
      exact ⟨by first | rfl | (simp [errW_none, errW_some] <;> rfl) | (simp [*, errW_none, errW_some] <;> rfl), bl_ HB.out⟩
    ·
     rw [if_neg c8] at H
     exact absurd H (by simp)
   ·
    replace c7 := Bool.eq_false_iff.mpr c7
    subst c7
    have H1 : (some 1) = some r := by rw [if_neg (show ¬ (false = true) by decide)] at H; exact H
    clear H
    have H := H1
    clear H1
    obtain rfl := Option.some.inj H
    go_enter Try.func175, Try.ntmps175
    go_wp2_with (first | ((with_reducible refine gate_dst (N := 4) rfl ?_); refine box_event ?hg (N := 4) ?hd (cs := #[.int .i64 a1_0, .int .i64 a1_1]) (t := 27) ?hr ?_; (case hd => rfl); (case hg => rfl); (case hr => first | (go_simp; done) | (go_simp; rfl)); intro gb270 hg w33 hbox hb; have n0_ := Aside0.mk (below_step (bl_ HB.out) hb); have n1_ := Aside0.mk (hbox); have n2_ := Aside0.mk (szl_ hg HB.out); have n3_ := Aside0.mk (szl_ hg HB.out); clear HB; have HB := n0_; have BK270 := n1_; have GW270 := n2_; have GE270 := n3_; clear n0_ n1_ n2_ n3_ hb hbox hg; have p271 : 0 ≤ (0 : Int) := (by omega); have q271 : 0 < (l0.length : Int) := of_decide_eq_true (by first | (with_reducible assumption) | assumption); obtain ⟨ad271, e271, hx271_0, hx271_1⟩ := at_T27 HR0.out 0 p271 q271; cases e271; have qi271 : (0 < l0.length) = True := eq_true (by omega); (try rw [show ((0 : Int)).toNat = 0 from rfl] at hx271_0); (try rw [show 0 * 2 = 0 from rfl] at hx271_0); (try rw [Addr.add_zero'] at hx271_0); (try rw [show ((0 : Int)).toNat = 0 from rfl] at hx271_1); (try rw [show 0 * 2 = 0 from rfl] at hx271_1); (try rw [Addr.add_zero'] at hx271_1); replace hx271_0 := (HB.out.cell (World.block_lt_of_cell? w _ hx271_0)).trans hx271_0; replace hx271_1 := (HB.out.cell (World.block_lt_of_cell? w _ hx271_1)).trans hx271_1; replace p271 := eq_true p271; replace q271 := eq_true q271) | (go_at_call 189; (with_reducible refine (swashplateref07_inside.calls ((rd_T27 l0 0).f0) ((rd_T27 l0 0).f1) 1000 false _ A6.out).mono ?_); rintro e w34 ⟨rfl, hb⟩; have n0_ := Aside0.mk (blk_below (bk_ BK270.out) hb); have n1_ := Aside0.mk (below_step (bl_ HB.out) hb); clear BK270 HB; have BK270 := n0_; have HB := n1_; clear n0_ n1_; (try clear hb); (try clear hb2); (try clear hk); (try clear hi)))
    go_ret
    exact ⟨by first | rfl | (simp [errW_none, errW_some] <;> rfl) | (simp [*, errW_none, errW_some] <;> rfl), bl_ HB.out⟩
  ·
   rw [if_neg c5] at H
   exact absurd H (by simp)
 ·
  rw [if_neg c4] at H
  have c4b0 : ((l0.length : Int) == 2) = false := beq_eq_false_iff_ne.mpr c4
  have c4b1 : ((l0.length : Int) != 2) = true := bne_iff_ne.mpr c4
  obtain rfl := Option.some.inj H
  go_enter Try.func175, Try.ntmps175
  go_wp2_with (first | ((with_reducible refine gate_dst (N := 4) rfl ?_); refine box_event ?hg (N := 4) ?hd (cs := #[.int .i64 a1_0, .int .i64 a1_1]) (t := 27) ?hr ?_; (case hd => rfl); (case hg => rfl); (case hr => first | (go_simp; done) | (go_simp; rfl)); intro gb270 hg w35 hbox hb; have n0_ := Aside0.mk (below_step (bl_ HB.out) hb); have n1_ := Aside0.mk (hbox); have n2_ := Aside0.mk (szl_ hg HB.out); have n3_ := Aside0.mk (szl_ hg HB.out); clear HB; have HB := n0_; have BK270 := n1_; have GW270 := n2_; have GE270 := n3_; clear n0_ n1_ n2_ n3_ hb hbox hg))
  go_ret
  exact ⟨by first | rfl | (simp [errW_none, errW_some] <;> rfl) | (simp [*, errW_none, errW_some] <;> rfl), bl_ HB.out⟩
end Go.Proofs.Yteodlmgmmpkpoaa.PS
end
section
namespace Go.Proofs.Yteodlmgmmpkpoaa.PS
open Go.RowKit Go.Proofs.YteodlmgmmpkpoaaW.PrintWords Go.Proofs.YteodlmgmmpkpoaaW.PrintLast Go.Proofs.YteodlmgmmpkpoaaW.PrintMore
attribute [local go_sem] max2_int min2_int max_two min_two max_three min_three max_four min_four   -- for this text's walks alone
set_option linter.unusedVariables false
set_option linter.unusedSimpArgs false
def swashplateref07_CheckSets.f (k : Nat) (a0_0 : Int) (a0_1 : Int) (a0_2 : Int) (l1 : List (S27)) (a2_0 : Int) (a2_1 : Int) (a3 : Int) : Option (Int) := (swashplateref07_Check.f a0_0 a0_1 a0_2).bind fun t279 => (if t279 = 0 then ((swashplateref01_Check.f k l1).bind fun t280 => (if t280 = 0 then ((swashplateref01_Valid.f a2_0 a2_1).bind fun t281 => (if t281 = true then ((swashplateref07_checkNumbers.f l1 a2_0 a2_1 a3).bind fun t282 => (some t282)) else (some 10))) else (some 10))) else (some t279))
set_option maxHeartbeats 8000000 in
set_option maxRecDepth 100000 in
theorem swashplateref07_CheckSets.calls (k : Nat) (a0_0 : Int) (a0_1 : Int) (a0_2 : Int) (A1 : Option Addr) (c1 : Nat) (l1 : List (S27)) (a2_0 : Int) (a2_1 : Int) (a3 : Int) (r : Int) (w : World) (hr1 : Kd.C k27 w A1 l1.length l1) (hc1 : l1.length ≤ c1) (h : swashplateref07_CheckSets.f k a0_0 a0_1 a0_2 l1 a2_0 a2_1 a3 = some r) :
  Calls Try.prog 145 #[.agg #[.int .i64 a0_0, .int .i64 a0_1, .int .i64 a0_2], .slice A1 l1.length c1, .agg #[.int .i64 a2_0, .int .i64 a2_1], .int .i64 a3] w fun e w' => e = .returned (.int .i64 r) ∧ Below w.heap.size w w' := by
 have hu105 := Try.underlying105
 have hu27 := Try.underlying27
 have HR1 := Aside0.mk hr1
 have HC1 := Aside0.mk hc1
 clear hr1 hc1
 have HB := Aside0.mk (Below.refl w.heap.size w)
 have H : ((swashplateref07_Check.f a0_0 a0_1 a0_2).bind fun t279 => (if t279 = 0 then ((swashplateref01_Check.f k l1).bind fun t280 => (if t280 = 0 then ((swashplateref01_Valid.f a2_0 a2_1).bind fun t281 => (if t281 = true then ((swashplateref07_checkNumbers.f l1 a2_0 a2_1 a3).bind fun t282 => (some t282)) else (some 10))) else (some 10))) else (some t279))) = some r := h
 clear h
 replace H := Option.bind_eq_some_iff.mp H
 obtain ⟨t279, A50, H⟩ := H
 replace H : (if t279 = 0 then ((swashplateref01_Check.f k l1).bind fun t280 => (if t280 = 0 then ((swashplateref01_Valid.f a2_0 a2_1).bind fun t281 => (if t281 = true then ((swashplateref07_checkNumbers.f l1 a2_0 a2_1 a3).bind fun t282 => (some t282)) else (some 10))) else (some 10))) else (some t279)) = some r := H
 have A5 := Aside0.mk A50
 clear A50
 by_cases c6 : t279 = 0
 ·
  rw [if_pos c6] at H
  have c6b0 : (t279 == 0) = true := beq_iff_eq.mpr c6
  have c6b1 : (t279 != 0) = false := bne_eq_false_iff_eq.mpr c6
  clear c6
  replace H := Option.bind_eq_some_iff.mp H
  obtain ⟨t280, A70, H⟩ := H
  replace H : (if t280 = 0 then ((swashplateref01_Valid.f a2_0 a2_1).bind fun t281 => (if t281 = true then ((swashplateref07_checkNumbers.f l1 a2_0 a2_1 a3).bind fun t282 => (some t282)) else (some 10))) else (some 10)) = some r := H
  have A7 := Aside0.mk A70
  clear A70
  by_cases c8 : t280 = 0
  ·
   rw [if_pos c8] at H
   have c8b0 : (t280 == 0) = true := beq_iff_eq.mpr c8
   have c8b1 : (t280 != 0) = false := bne_eq_false_iff_eq.mpr c8
   clear c8
   replace H := Option.bind_eq_some_iff.mp H
   obtain ⟨t281, A90, H⟩ := H
   replace H : (if t281 = true then ((swashplateref07_checkNumbers.f l1 a2_0 a2_1 a3).bind fun t282 => (some t282)) else (some 10)) = some r := H
   have A9 := Aside0.mk A90
   clear A90
   by_cases c10 : t281 = true
   ·
    subst c10
    have H1 : ((swashplateref07_checkNumbers.f l1 a2_0 a2_1 a3).bind fun t282 => (some t282)) = some r := by rw [if_pos rfl] at H; exact H
    clear H
    have H := H1
    clear H1
    replace H := Option.bind_eq_some_iff.mp H
    obtain ⟨t282, A110, H⟩ := H
    replace H : (some t282) = some r := H
    have A11 := Aside0.mk A110
    clear A110
    obtain rfl := Option.some.inj H
    go_enter Try.func145, Try.ntmps145
    go_wp2_with (first | ((with_reducible refine gate_dst (N := 4) rfl ?_); refine box_event ?hg (N := 4) ?hd (cs := #[.int .i64 a0_0, .int .i64 a0_1, .int .i64 a0_2]) (t := 105) ?hr ?_; (case hd => rfl); (case hg => rfl); (case hr => first | (go_simp; done) | (go_simp; rfl)); intro gb277 hg w12 hbox hb; have n0_ := Aside0.mk (below_step (bl_ HB.out) hb); have n1_ := Aside0.mk (hbox); have n2_ := Aside0.mk (szl_ hg HB.out); have n3_ := Aside0.mk (szl_ hg HB.out); clear HB; have HB := n0_; have BK277 := n1_; have GW277 := n2_; have GE277 := n3_; clear n0_ n1_ n2_ n3_ hb hbox hg) | ((with_reducible refine gate_dst (N := 6) rfl ?_); refine box_event ?hg (N := 6) ?hd (cs := #[.int .i64 a2_0, .int .i64 a2_1]) (t := 27) ?hr ?_; (case hd => rfl); (case hg => rfl); (case hr => first | (go_simp; done) | (go_simp; rfl)); intro gb278 hg w13 hbox hb; have n0_ := Aside0.mk (blk_below (bk_ BK277.out) hb); have n1_ := Aside0.mk (below_step (bl_ HB.out) hb); have n2_ := Aside0.mk (hbox); have n3_ := Aside0.mk (szl_ hg HB.out); have n4_ := Aside0.mk (szl_ hg HB.out); have n5_ := Aside0.mk (nel_ hg BK277.out); have n6_ := Aside0.mk (ner_ hg BK277.out); clear BK277 HB; have BK277 := n0_; have HB := n1_; have BK278 := n2_; have GW278 := n3_; have GE278 := n4_; have NB277_278 := n5_; have NB278_277 := n6_; clear n0_ n1_ n2_ n3_ n4_ n5_ n6_ hb hbox hg; have hnb14 := NB277_278.out; have hnc14 := NB278_277.out; have hcz15_0 : w13.cell? ⟨gb277, 0, none⟩ = some (.int .i64 a0_0) := (blk_cell BK277.out 0).trans rfl; have hcz15_1 : w13.cell? ⟨gb277, 1, none⟩ = some (.int .i64 a0_1) := (blk_cell BK277.out 1).trans rfl; have hcz15_2 : w13.cell? ⟨gb277, 2, none⟩ = some (.int .i64 a0_2) := (blk_cell BK277.out 2).trans rfl; have hfz15_0 := blk_frozen BK277.out 0; have hfz15_1 := blk_frozen BK277.out 1; have hfz15_2 := blk_frozen BK277.out 2) | ((with_reducible refine gate_callee (f := 69) rfl ?_); refine goesL_ (some 11) rfl rfl Try.func69 (by kernel_rfl) rfl #[.agg #[.int .i64 a0_0, .int .i64 a0_1, .int .i64 a0_2]] rfl (by (try simp only [List.map_toArray, List.map_cons, List.map_nil]); first | done | rfl | (simp only [List.length_drop, List.length_take]; rfl)) ?_; (with_reducible refine (swashplateref07_Check.calls a0_0 a0_1 a0_2 t279 _ A5.out).mono ?_); rintro e w16 ⟨rfl, hb⟩; refine ⟨_, rfl, ?_⟩; have n0_ := Aside0.mk (blk_below (bk_ BK277.out) hb); have n1_ := Aside0.mk (blk_below (bk_ BK278.out) hb); have n2_ := Aside0.mk (below_step (bl_ HB.out) hb); clear BK277 BK278 HB; have BK277 := n0_; have BK278 := n1_; have HB := n2_; clear n0_ n1_ n2_; (try clear hb); (try clear hb2); (try clear hk); (try clear hi)) | ((with_reducible refine gate_callee (f := 28) rfl ?_); refine goesL_ (some 16) rfl rfl Try.func28 (by kernel_rfl) rfl #[.slice A1 l1.length c1] rfl (by (try simp only [List.map_toArray, List.map_cons, List.map_nil]); first | done | rfl | (simp only [List.length_drop, List.length_take]; rfl)) ?_; (with_reducible refine (swashplateref01_Check.calls k _ _ l1 t280 _ ?side1 ?side2 A7.out).mono ?_); (case side1 => exact cr_ (Kd.C_below HR1.out HB.out)); (case side2 => exact HC1.out); rintro e w17 ⟨rfl, hb⟩; refine ⟨_, rfl, ?_⟩; have n0_ := Aside0.mk (blk_below (bk_ BK277.out) hb); have n1_ := Aside0.mk (blk_below (bk_ BK278.out) hb); have n2_ := Aside0.mk (below_step (bl_ HB.out) hb); clear BK277 BK278 HB; have BK277 := n0_; have BK278 := n1_; have HB := n2_; clear n0_ n1_ n2_; (try clear hb); (try clear hb2); (try clear hk); (try clear hi); have hcz18_0 : w17.cell? ⟨gb278, 0, none⟩ = some (.int .i64 a2_0) := (blk_cell BK278.out 0).trans rfl; have hcz18_1 : w17.cell? ⟨gb278, 1, none⟩ = some (.int .i64 a2_1) := (blk_cell BK278.out 1).trans rfl; have hfz18_0 := blk_frozen BK278.out 0; have hfz18_1 := blk_frozen BK278.out 1) | (go_at_call 40; (with_reducible refine (swashplateref01_Valid.calls a2_0 a2_1 true _ A9.out).mono ?_); rintro e w19 ⟨rfl, hb⟩; have n0_ := Aside0.mk (blk_below (bk_ BK277.out) hb); have n1_ := Aside0.mk (blk_below (bk_ BK278.out) hb); have n2_ := Aside0.mk (below_step (bl_ HB.out) hb); clear BK277 BK278 HB; have BK277 := n0_; have BK278 := n1_; have HB := n2_; clear n0_ n1_ n2_; (try clear hb); (try clear hb2); (try clear hk); (try clear hi); have hcz20_0 : w19.cell? ⟨gb278, 0, none⟩ = some (.int .i64 a2_0) := (blk_cell BK278.out 0).trans rfl; have hcz20_1 : w19.cell? ⟨gb278, 1, none⟩ = some (.int .i64 a2_1) := (blk_cell BK278.out 1).trans rfl; have hfz20_0 := blk_frozen BK278.out 0; have hfz20_1 := blk_frozen BK278.out 1) | ((with_reducible refine gate_callee (f := 175) rfl ?_); refine goesL_ (some 26) rfl rfl Try.func175 (by kernel_rfl) rfl #[.slice A1 l1.length c1, .agg #[.int .i64 a2_0, .int .i64 a2_1], .int .i64 a3] rfl (by (try simp only [List.map_toArray, List.map_cons, List.map_nil]); first | done | rfl | (simp only [List.length_drop, List.length_take]; rfl)) ?_; (with_reducible refine (swashplateref07_checkNumbers.calls _ _ l1 a2_0 a2_1 a3 t282 _ ?side1 ?side2 A11.out).mono ?_); (case side1 => exact cr_ (Kd.C_below HR1.out HB.out)); (case side2 => exact HC1.out); rintro e w21 ⟨rfl, hb⟩; refine ⟨_, rfl, ?_⟩; have n0_ := Aside0.mk (blk_below (bk_ BK277.out) hb); have n1_ := Aside0.mk (blk_below (bk_ BK278.out) hb); have n2_ := Aside0.mk (below_step (bl_ HB.out) hb); clear BK277 BK278 HB; have BK277 := n0_; have BK278 := n1_; have HB := n2_; clear n0_ n1_ n2_; (try clear hb); (try clear hb2); (try clear hk); (try clear hi)))
    go_ret
    exact ⟨by first | rfl | (simp [errW_none, errW_some] <;> rfl) | (simp [*, errW_none, errW_some] <;> rfl), bl_ HB.out⟩
   ·
    replace c10 := Bool.eq_false_iff.mpr c10
    subst c10
    have H1 : (some 10) = some r := by rw [if_neg (show ¬ (false = true) by decide)] at H; exact H
    clear H
    have H := H1
    clear H1
    obtain rfl := Option.some.inj H
    go_enter Try.func145, Try.ntmps145
    go_wp2_with (first | ((with_reducible refine gate_dst (N := 4) rfl ?_); refine box_event ?hg (N := 4) ?hd (cs := #[.int .i64 a0_0, .int .i64 a0_1, .int .i64 a0_2]) (t := 105) ?hr ?_; (case hd => rfl); (case hg => rfl); (case hr => first | (go_simp; done) | (go_simp; rfl)); intro gb277 hg w22 hbox hb; have n0_ := Aside0.mk (below_step (bl_ HB.out) hb); have n1_ := Aside0.mk (hbox); have n2_ := Aside0.mk (szl_ hg HB.out); have n3_ := Aside0.mk (szl_ hg HB.out); clear HB; have HB := n0_; have BK277 := n1_; have GW277 := n2_; have GE277 := n3_; clear n0_ n1_ n2_ n3_ hb hbox hg) | ((with_reducible refine gate_dst (N := 6) rfl ?_); refine box_event ?hg (N := 6) ?hd (cs := #[.int .i64 a2_0, .int .i64 a2_1]) (t := 27) ?hr ?_; (case hd => rfl); (case hg => rfl); (case hr => first | (go_simp; done) | (go_simp; rfl)); intro gb278 hg w23 hbox hb; have n0_ := Aside0.mk (blk_below (bk_ BK277.out) hb); have n1_ := Aside0.mk (below_step (bl_ HB.out) hb); have n2_ := Aside0.mk (hbox); have n3_ := Aside0.mk (szl_ hg HB.out); have n4_ := Aside0.mk (szl_ hg HB.out); have n5_ := Aside0.mk (nel_ hg BK277.out); have n6_ := Aside0.mk (ner_ hg BK277.out); clear BK277 HB; have BK277 := n0_; have HB := n1_; have BK278 := n2_; have GW278 := n3_; have GE278 := n4_; have NB277_278 := n5_; have NB278_277 := n6_; clear n0_ n1_ n2_ n3_ n4_ n5_ n6_ hb hbox hg; have hnb24 := NB277_278.out; have hnc24 := NB278_277.out; have hcz25_0 : w23.cell? ⟨gb277, 0, none⟩ = some (.int .i64 a0_0) := (blk_cell BK277.out 0).trans rfl; have hcz25_1 : w23.cell? ⟨gb277, 1, none⟩ = some (.int .i64 a0_1) := (blk_cell BK277.out 1).trans rfl; have hcz25_2 : w23.cell? ⟨gb277, 2, none⟩ = some (.int .i64 a0_2) := (blk_cell BK277.out 2).trans rfl; have hfz25_0 := blk_frozen BK277.out 0; have hfz25_1 := blk_frozen BK277.out 1; have hfz25_2 := blk_frozen BK277.out 2) | ((with_reducible refine gate_callee (f := 69) rfl ?_); refine goesL_ (some 11) rfl rfl Try.func69 (by kernel_rfl) rfl #[.agg #[.int .i64 a0_0, .int .i64 a0_1, .int .i64 a0_2]] rfl (by (try simp only [List.map_toArray, List.map_cons, List.map_nil]); first | done | rfl | (simp only [List.length_drop, List.length_take]; rfl)) ?_; (with_reducible refine (swashplateref07_Check.calls a0_0 a0_1 a0_2 t279 _ A5.out).mono ?_); rintro e w26 ⟨rfl, hb⟩; refine ⟨_, rfl, ?_⟩; have n0_ := Aside0.mk (blk_below (bk_ BK277.out) hb); have n1_ := Aside0.mk (blk_below (bk_ BK278.out) hb); have n2_ := Aside0.mk (below_step (bl_ HB.out) hb); clear BK277 BK278 HB; have BK277 := n0_; have BK278 := n1_; have HB := n2_; clear n0_ n1_ n2_; (try clear hb); (try clear hb2); (try clear hk); (try clear hi)) | ((with_reducible refine gate_callee (f := 28) rfl ?_); refine goesL_ (some 16) rfl rfl Try.func28 (by kernel_rfl) rfl #[.slice A1 l1.length c1] rfl (by (try simp only [List.map_toArray, List.map_cons, List.map_nil]); first | done | rfl | (simp only [List.length_drop, List.length_take]; rfl)) ?_; (with_reducible refine (swashplateref01_Check.calls k _ _ l1 t280 _ ?side1 ?side2 A7.out).mono ?_); (case side1 => exact cr_ (Kd.C_below HR1.out HB.out)); (case side2 => exact HC1.out); rintro e w27 ⟨rfl, hb⟩; refine ⟨_, rfl, ?_⟩; have n0_ := Aside0.mk (blk_below (bk_ BK277.out) hb); have n1_ := Aside0.mk (blk_below (bk_ BK278.out) hb); have n2_ := Aside0.mk (below_step (bl_ HB.out) hb); clear BK277 BK278 HB; have BK277 := n0_; have BK278 := n1_; have HB := n2_; clear n0_ n1_ n2_; (try clear hb); (try clear hb2); (try clear hk); (try clear hi); have hcz28_0 : w27.cell? ⟨gb278, 0, none⟩ = some (.int .i64 a2_0) := (blk_cell BK278.out 0).trans rfl; have hcz28_1 : w27.cell? ⟨gb278, 1, none⟩ = some (.int .i64 a2_1) := (blk_cell BK278.out 1).trans rfl; have hfz28_0 := blk_frozen BK278.out 0; have hfz28_1 := blk_frozen BK278.out 1) | (go_at_call 40; (with_reducible refine (swashplateref01_Valid.calls a2_0 a2_1 false _ A9.out).mono ?_); rintro e w29 ⟨rfl, hb⟩; have n0_ := Aside0.mk (blk_below (bk_ BK277.out) hb); have n1_ := Aside0.mk (blk_below (bk_ BK278.out) hb); have n2_ := Aside0.mk (below_step (bl_ HB.out) hb); clear BK277 BK278 HB; have BK277 := n0_; have BK278 := n1_; have HB := n2_; clear n0_ n1_ n2_; (try clear hb); (try clear hb2); (try clear hk); (try clear hi)))
    go_ret
    exact ⟨by first | rfl | (simp [errW_none, errW_some] <;> rfl) | (simp [*, errW_none, errW_some] <;> rfl), bl_ HB.out⟩
  ·
   rw [if_neg c8] at H
   have c8b0 : (t280 == 0) = false := beq_eq_false_iff_ne.mpr c8
   have c8b1 : (t280 != 0) = true := bne_iff_ne.mpr c8
   obtain rfl := Option.some.inj H
   go_enter Try.func145, Try.ntmps145
   go_wp2_with (first | ((with_reducible refine gate_dst (N := 4) rfl ?_); refine box_event ?hg (N := 4) ?hd (cs := #[.int .i64 a0_0, .int .i64 a0_1, .int .i64 a0_2]) (t := 105) ?hr ?_; (case hd => rfl); (case hg => rfl); (case hr => first | (go_simp; done) | (go_simp; rfl)); intro gb277 hg w30 hbox hb; have n0_ := Aside0.mk (below_step (bl_ HB.out) hb); have n1_ := Aside0.mk (hbox); have n2_ := Aside0.mk (szl_ hg HB.out); have n3_ := Aside0.mk (szl_ hg HB.out); clear HB; have HB := n0_; have BK277 := n1_; have GW277 := n2_; have GE277 := n3_; clear n0_ n1_ n2_ n3_ hb hbox hg) | ((with_reducible refine gate_dst (N := 6) rfl ?_); refine box_event ?hg (N := 6) ?hd (cs := #[.int .i64 a2_0, .int .i64 a2_1]) (t := 27) ?hr ?_; (case hd => rfl); (case hg => rfl); (case hr => first | (go_simp; done) | (go_simp; rfl)); intro gb278 hg w31 hbox hb; have n0_ := Aside0.mk (blk_below (bk_ BK277.out) hb); have n1_ := Aside0.mk (below_step (bl_ HB.out) hb); have n2_ := Aside0.mk (hbox); have n3_ := Aside0.mk (szl_ hg HB.out); have n4_ := Aside0.mk (szl_ hg HB.out); have n5_ := Aside0.mk (nel_ hg BK277.out); have n6_ := Aside0.mk (ner_ hg BK277.out); clear BK277 HB; have BK277 := n0_; have HB := n1_; have BK278 := n2_; have GW278 := n3_; have GE278 := n4_; have NB277_278 := n5_; have NB278_277 := n6_; clear n0_ n1_ n2_ n3_ n4_ n5_ n6_ hb hbox hg; have hnb32 := NB277_278.out; have hnc32 := NB278_277.out; have hcz33_0 : w31.cell? ⟨gb277, 0, none⟩ = some (.int .i64 a0_0) := (blk_cell BK277.out 0).trans rfl; have hcz33_1 : w31.cell? ⟨gb277, 1, none⟩ = some (.int .i64 a0_1) := (blk_cell BK277.out 1).trans rfl; have hcz33_2 : w31.cell? ⟨gb277, 2, none⟩ = some (.int .i64 a0_2) := (blk_cell BK277.out 2).trans rfl; have hfz33_0 := blk_frozen BK277.out 0; have hfz33_1 := blk_frozen BK277.out 1; have hfz33_2 := blk_frozen BK277.out 2) | ((with_reducible refine gate_callee (f := 69) rfl ?_); refine goesL_ (some 11) rfl rfl Try.func69 (by kernel_rfl) rfl #[.agg #[.int .i64 a0_0, .int .i64 a0_1, .int .i64 a0_2]] rfl (by (try simp only [List.map_toArray, List.map_cons, List.map_nil]); first | done | rfl | (simp only [List.length_drop, List.length_take]; rfl)) ?_; (with_reducible refine (swashplateref07_Check.calls a0_0 a0_1 a0_2 t279 _ A5.out).mono ?_); rintro e w34 ⟨rfl, hb⟩; refine ⟨_, rfl, ?_⟩; have n0_ := Aside0.mk (blk_below (bk_ BK277.out) hb); have n1_ := Aside0.mk (blk_below (bk_ BK278.out) hb); have n2_ := Aside0.mk (below_step (bl_ HB.out) hb); clear BK277 BK278 HB; have BK277 := n0_; have BK278 := n1_; have HB := n2_; clear n0_ n1_ n2_; (try clear hb); (try clear hb2); (try clear hk); (try clear hi)) | ((with_reducible refine gate_callee (f := 28) rfl ?_); refine goesL_ (some 16) rfl rfl Try.func28 (by kernel_rfl) rfl #[.slice A1 l1.length c1] rfl (by (try simp only [List.map_toArray, List.map_cons, List.map_nil]); first | done | rfl | (simp only [List.length_drop, List.length_take]; rfl)) ?_; (with_reducible refine (swashplateref01_Check.calls k _ _ l1 t280 _ ?side1 ?side2 A7.out).mono ?_); (case side1 => exact cr_ (Kd.C_below HR1.out HB.out)); (case side2 => exact HC1.out); rintro e w35 ⟨rfl, hb⟩; refine ⟨_, rfl, ?_⟩; have n0_ := Aside0.mk (blk_below (bk_ BK277.out) hb); have n1_ := Aside0.mk (blk_below (bk_ BK278.out) hb); have n2_ := Aside0.mk (below_step (bl_ HB.out) hb); clear BK277 BK278 HB; have BK277 := n0_; have BK278 := n1_; have HB := n2_; clear n0_ n1_ n2_; (try clear hb); (try clear hb2); (try clear hk); (try clear hi)))
   go_ret
   exact ⟨by first | rfl | (simp [errW_none, errW_some] <;> rfl) | (simp [*, errW_none, errW_some] <;> rfl), bl_ HB.out⟩
 ·
  rw [if_neg c6] at H
  have c6b0 : (t279 == 0) = false := beq_eq_false_iff_ne.mpr c6
  have c6b1 : (t279 != 0) = true := bne_iff_ne.mpr c6
  obtain rfl := Option.some.inj H
  go_enter Try.func145, Try.ntmps145
  go_wp2_with (first | ((with_reducible refine gate_dst (N := 4) rfl ?_); refine box_event ?hg (N := 4) ?hd (cs := #[.int .i64 a0_0, .int .i64 a0_1, .int .i64 a0_2]) (t := 105) ?hr ?_; (case hd => rfl); (case hg => rfl); (case hr => first | (go_simp; done) | (go_simp; rfl)); intro gb277 hg w36 hbox hb; have n0_ := Aside0.mk (below_step (bl_ HB.out) hb); have n1_ := Aside0.mk (hbox); have n2_ := Aside0.mk (szl_ hg HB.out); have n3_ := Aside0.mk (szl_ hg HB.out); clear HB; have HB := n0_; have BK277 := n1_; have GW277 := n2_; have GE277 := n3_; clear n0_ n1_ n2_ n3_ hb hbox hg) | ((with_reducible refine gate_dst (N := 6) rfl ?_); refine box_event ?hg (N := 6) ?hd (cs := #[.int .i64 a2_0, .int .i64 a2_1]) (t := 27) ?hr ?_; (case hd => rfl); (case hg => rfl); (case hr => first | (go_simp; done) | (go_simp; rfl)); intro gb278 hg w37 hbox hb; have n0_ := Aside0.mk (blk_below (bk_ BK277.out) hb); have n1_ := Aside0.mk (below_step (bl_ HB.out) hb); have n2_ := Aside0.mk (hbox); have n3_ := Aside0.mk (szl_ hg HB.out); have n4_ := Aside0.mk (szl_ hg HB.out); have n5_ := Aside0.mk (nel_ hg BK277.out); have n6_ := Aside0.mk (ner_ hg BK277.out); clear BK277 HB; have BK277 := n0_; have HB := n1_; have BK278 := n2_; have GW278 := n3_; have GE278 := n4_; have NB277_278 := n5_; have NB278_277 := n6_; clear n0_ n1_ n2_ n3_ n4_ n5_ n6_ hb hbox hg; have hnb38 := NB277_278.out; have hnc38 := NB278_277.out; have hcz39_0 : w37.cell? ⟨gb277, 0, none⟩ = some (.int .i64 a0_0) := (blk_cell BK277.out 0).trans rfl; have hcz39_1 : w37.cell? ⟨gb277, 1, none⟩ = some (.int .i64 a0_1) := (blk_cell BK277.out 1).trans rfl; have hcz39_2 : w37.cell? ⟨gb277, 2, none⟩ = some (.int .i64 a0_2) := (blk_cell BK277.out 2).trans rfl; have hfz39_0 := blk_frozen BK277.out 0; have hfz39_1 := blk_frozen BK277.out 1; have hfz39_2 := blk_frozen BK277.out 2) | ((with_reducible refine gate_callee (f := 69) rfl ?_); refine goesL_ (some 11) rfl rfl Try.func69 (by kernel_rfl) rfl #[.agg #[.int .i64 a0_0, .int .i64 a0_1, .int .i64 a0_2]] rfl (by (try simp only [List.map_toArray, List.map_cons, List.map_nil]); first | done | rfl | (simp only [List.length_drop, List.length_take]; rfl)) ?_; (with_reducible refine (swashplateref07_Check.calls a0_0 a0_1 a0_2 t279 _ A5.out).mono ?_); rintro e w40 ⟨rfl, hb⟩; refine ⟨_, rfl, ?_⟩; have n0_ := Aside0.mk (blk_below (bk_ BK277.out) hb); have n1_ := Aside0.mk (blk_below (bk_ BK278.out) hb); have n2_ := Aside0.mk (below_step (bl_ HB.out) hb); clear BK277 BK278 HB; have BK277 := n0_; have BK278 := n1_; have HB := n2_; clear n0_ n1_ n2_; (try clear hb); (try clear hb2); (try clear hk); (try clear hi)))
  go_ret
  exact ⟨by first | rfl | (simp [errW_none, errW_some] <;> rfl) | (simp [*, errW_none, errW_some] <;> rfl), bl_ HB.out⟩
end Go.Proofs.Yteodlmgmmpkpoaa.PS
end
section
namespace Go.Proofs.Yteodlmgmmpkpoaa.PS
open Go.RowKit Go.Proofs.YteodlmgmmpkpoaaW.PrintWords Go.Proofs.YteodlmgmmpkpoaaW.PrintLast Go.Proofs.YteodlmgmmpkpoaaW.PrintMore
set_option linter.unusedVariables false
def mk (n b : Nat) : Array Bool := ((List.range n).map fun i => b.testBit i).toArray
section
variable {P : Program} {ops : Array Oper} {Q : Exit → Act → World → Prop} {md : Region.Mode} {S : World → Prop} {ds : List Nat} {T : Bool × List (List Nat × List Nat)} {B : List Nat} {fuel : Nat} {l : Array Bool} {a a' : Act} {w : World} {oi : Oper} {v : Value}
theorem no_ (i N : Nat) (l' : Array Bool) (HT : Aside0 (rtab md ops = T)) (h : wpAnyLast P md ops Q S ds fuel l' a' w) (hi : ops[i]? = some oi := by rfl) (hN : oi.dst = some N := by rfl) (hc : anyT T l.toList l'.toList i = true := by kernel_rfl)
    (hw : Region.wanted oi (yielded ops a.tmps) = false := by rfl) (hQ : ∀ c a w, Q (.panic c) (a.put oi.dst undef) w → Q (.panic c) a w := by exact fun _ _ _ h => h)
    (ha : a.put (some N) undef = a' := by (simp only [Act.put, List.setIfInBounds_toArray, List.set_cons_zero, List.set_cons_succ, i64_w, i32_w]; rfl)) : wpAnyLast P md ops Q S ds (fuel + 1) l a w :=
  pure_ l' hi hN (any_of HT.out hc) hQ (.inr ⟨hw, rfl⟩) ha h
theorem pu_ (i N : Nat) (l' : Array Bool) (HT : Aside0 (rtab md ops = T)) (h : wpAnyLast P md ops Q S ds fuel l' a' w) (hi : ops[i]? = some oi := by rfl) (hN : oi.dst = some N := by rfl) (hc : anyT T l.toList l'.toList i = true := by kernel_rfl)
    (hw : Region.wanted oi (yielded ops a.tmps) = true := by rfl) (hr : ∀ w, (execOp a.eval oi).run P w = .ok (.value v) w := by (intro w'; go_simp; with_reducible rfl)) (hQ : ∀ c a w, Q (.panic c) (a.put oi.dst v) w → Q (.panic c) a w := by exact fun _ _ _ h => h)
    (ha : a.put (some N) v = a' := by (simp only [Act.put, List.setIfInBounds_toArray, List.set_cons_zero, List.set_cons_succ, i64_w, i32_w]; rfl)) : wpAnyLast P md ops Q S ds (fuel + 1) l a w :=
  pure_ l' hi hN (any_of HT.out hc) hQ (.inl ⟨hw, hr⟩) ha h
theorem tk_ (i N : Nat) (l' : Array Bool) (HT : Aside0 (rtab md ops = T)) (HW : Aside0 (waitsOk T.2 B = true)) (hS : S w) (h : wpAnyLast P md ops Q S ds fuel l' a' w) (hi : ops[i]? = some oi := by rfl) (hN : oi.dst = some N := by rfl) (hc : takeW T B ds l.toList l'.toList i = true := by kernel_rfl)
    (hw : Region.wanted oi (yielded ops a.tmps) = true := by rfl) (hr : ∀ w, S w → (execOp a.eval oi).run P w = .ok (.value v) w := by (intro w' hs'; go_simp; with_reducible rfl)) (hQ : ∀ c a w, Q (.panic c) (a.put oi.dst v) w → Q (.panic c) a w := by exact fun _ _ _ h => h)
    (ha : a.put (some N) v = a' := by (simp only [Act.put, List.setIfInBounds_toArray, List.set_cons_zero, List.set_cons_succ, i64_w, i32_w]; rfl)) : wpAnyLast P md ops Q S ds (fuel + 1) l a w :=
  take_ l' hi hN (take_ofW HT.out HW.out hc) hQ (.inl ⟨hw, hr⟩) hS ha h
theorem nm_ (h : wpAnyLast P md ops Q S ds fuel l a' w) (ha : a = a' := by (simp only [Act.put, List.setIfInBounds_toArray, List.set_cons_zero, List.set_cons_succ, i64_w, i32_w]; rfl)) : wpAnyLast P md ops Q S ds fuel l a w := norm_ ha h
end
end Go.Proofs.Yteodlmgmmpkpoaa.PS
end
section
namespace Go.Proofs.Yteodlmgmmpkpoaa.PS
open Go.RowKit Go.Proofs.YteodlmgmmpkpoaaW.PrintWords Go.Proofs.YteodlmgmmpkpoaaW.PrintLast Go.Proofs.YteodlmgmmpkpoaaW.PrintMore
set_option linter.unusedVariables false
set_option linter.unusedSimpArgs false
theorem keep2 {w w' : World} (hb : Below w.heap.size w w') {p0 p1 : Addr} {v0 v1 : Value} (h : w.cell? p0 = some v0 ∧ w.cell? p1 = some v1) : w'.cell? p0 = some v0 ∧ w'.cell? p1 = some v1 := by
  obtain ⟨h0, h1⟩ := h
  exact ⟨(hb.cell (World.block_lt_of_cell? _ _ h0)).trans h0, (hb.cell (World.block_lt_of_cell? _ _ h1)).trans h1⟩
theorem share {G Q : Prop} (h : Aside0 G → Q) (hg : G) : Q := h ⟨hg⟩
theorem newSet_70 (n m D : Int) (A1 : Option Addr) (c1 : Nat) (b : List S27) (g0 g1 N : Int) (w : World) (hs : slB n m D = false) :
    Calls Try.prog 142 #[.agg #[.int .i64 n, .int .i64 m, .int .i64 D], .slice A1 b.length c1, .agg #[.int .i64 g0, .int .i64 g1], .int .i64 N, .slice none 0 0] w fun e w' => e = .returned (.tuple #[.pointer none, .int .i64 70]) ∧ Below w.heap.size w w' := by
  have HS := Aside0.mk hs
  clear hs
  have HB := Aside0.mk (Below.refl w.heap.size w)
  go_enter Try.func142, Try.ntmps142
  go_wp2_with (first | ((with_reducible refine gate_dst (N := 5) rfl ?_); refine box_event ?hg (N := 5) ?hd (cs := #[.int .i64 n, .int .i64 m, .int .i64 D]) (t := 105) ?hr ?_; (case hd => rfl); (case hg => rfl); (case hr => first | (go_simp; done) | (go_simp; rfl)); intro gs hg w1 hbox hb; have n0_ := Aside0.mk (below_step HB.out hb); have x0_ := Aside0.mk (hbox); have x1_ := Aside0.mk ((by rw [hg]; exact HB.out.size : w.heap.size ≤ gs)); clear HB; have HB := n0_; clear n0_; have BKgs := x0_; clear x0_; have GEgs := x1_; clear x1_; clear hb hbox hg; skip) | ((with_reducible refine gate_dst (N := 7) rfl ?_); refine box_event ?hg (N := 7) ?hd (cs := #[.int .i64 g0, .int .i64 g1]) (t := 27) ?hr ?_; (case hd => rfl); (case hg => rfl); (case hr => first | (go_simp; done) | (go_simp; rfl)); intro gg hg w2 hbox hb; have n0_ := Aside0.mk (below_step HB.out hb); have m0_ := Aside0.mk (blk_below BKgs.out hb); have x0_ := Aside0.mk (hbox); have x1_ := Aside0.mk ((by rw [hg]; exact HB.out.size : w.heap.size ≤ gg)); clear HB; have HB := n0_; clear n0_; clear BKgs; have BKgs := m0_; clear m0_; have BKgg := x0_; clear x0_; have GEgg := x1_; clear x1_; clear hb hbox hg; have zgs0 : w2.cell? ⟨gs, 0, none⟩ = some (.int .i64 n) := (blk_cell BKgs.out 0).trans rfl; have zgs1 : w2.cell? ⟨gs, 1, none⟩ = some (.int .i64 m) := (blk_cell BKgs.out 1).trans rfl; have zgs2 : w2.cell? ⟨gs, 2, none⟩ = some (.int .i64 D) := (blk_cell BKgs.out 2).trans rfl; skip) | (go_at_call 68; refine (chk_no n m D HS.out _).mono ?_; rintro e w3 ⟨rfl, hb⟩; have n0_ := Aside0.mk (below_step HB.out hb); have m0_ := Aside0.mk (blk_below BKgs.out hb); have m1_ := Aside0.mk (blk_below BKgg.out hb); clear HB; have HB := n0_; clear n0_; clear BKgs; have BKgs := m0_; clear m0_; clear BKgg; have BKgg := m1_; clear m1_; clear hb; clear zgs0; clear zgs1; clear zgs2; skip))
  refine bodyPost_ret (results_list (rs := [.tmp 10, .tmp 11]) rfl (by simp) (.tmp (.tmp .nil))) rfl ?_
  exact ⟨rfl, HB.out⟩
set_option maxRecDepth 100000 in
set_option maxHeartbeats 4000000 in
theorem newSet_10 (n m D : Int) (A1 : Option Addr) (c1 : Nat) (b : List S27) (g0 g1 N : Int) (w : World) (hs : slB n m D = true) (hr : Kd.C k27 w A1 b.length b) (hc : b.length ≤ c1) (hn : (boxB b && okS g0 g1) = false) :
    Calls Try.prog 142 #[.agg #[.int .i64 n, .int .i64 m, .int .i64 D], .slice A1 b.length c1, .agg #[.int .i64 g0, .int .i64 g1], .int .i64 N, .slice none 0 0] w fun e w' => e = .returned (.tuple #[.pointer none, .int .i64 10]) ∧ Below w.heap.size w w' := by
  have HS := Aside0.mk hs
  have HR := Aside0.mk hr
  have HN := Aside0.mk hn
  clear hs hr hn
  have HB := Aside0.mk (Below.refl w.heap.size w)
  go_enter Try.func142, Try.ntmps142
  go_wp2_with (first | ((with_reducible refine gate_dst (N := 5) rfl ?_); refine box_event ?hg (N := 5) ?hd (cs := #[.int .i64 n, .int .i64 m, .int .i64 D]) (t := 105) ?hr ?_; (case hd => rfl); (case hg => rfl); (case hr => first | (go_simp; done) | (go_simp; rfl)); intro gs hg w1 hbox hb; have n0_ := Aside0.mk (below_step HB.out hb); have x0_ := Aside0.mk (hbox); have x1_ := Aside0.mk ((by rw [hg]; exact HB.out.size : w.heap.size ≤ gs)); clear HB; have HB := n0_; clear n0_; have BKgs := x0_; clear x0_; have GEgs := x1_; clear x1_; clear hb hbox hg; skip) | ((with_reducible refine gate_dst (N := 7) rfl ?_); refine box_event ?hg (N := 7) ?hd (cs := #[.int .i64 g0, .int .i64 g1]) (t := 27) ?hr ?_; (case hd => rfl); (case hg => rfl); (case hr => first | (go_simp; done) | (go_simp; rfl)); intro gg hg w2 hbox hb; have n0_ := Aside0.mk (below_step HB.out hb); have m0_ := Aside0.mk (blk_below BKgs.out hb); have x0_ := Aside0.mk (hbox); have x1_ := Aside0.mk ((by rw [hg]; exact HB.out.size : w.heap.size ≤ gg)); clear HB; have HB := n0_; clear n0_; clear BKgs; have BKgs := m0_; clear m0_; have BKgg := x0_; clear x0_; have GEgg := x1_; clear x1_; clear hb hbox hg; have zgs0 : w2.cell? ⟨gs, 0, none⟩ = some (.int .i64 n) := (blk_cell BKgs.out 0).trans rfl; have zgs1 : w2.cell? ⟨gs, 1, none⟩ = some (.int .i64 m) := (blk_cell BKgs.out 1).trans rfl; have zgs2 : w2.cell? ⟨gs, 2, none⟩ = some (.int .i64 D) := (blk_cell BKgs.out 2).trans rfl; skip) | (go_at_call 68; refine (chk_yes n m D HS.out _).mono ?_; rintro e w3 ⟨rfl, hb⟩; have n0_ := Aside0.mk (below_step HB.out hb); have m0_ := Aside0.mk (blk_below BKgs.out hb); have m1_ := Aside0.mk (blk_below BKgg.out hb); clear HB; have HB := n0_; clear n0_; clear BKgs; have BKgs := m0_; clear m0_; clear BKgg; have BKgg := m1_; clear m1_; clear hb; clear zgs0; clear zgs1; clear zgs2; have zgg0 : w3.cell? ⟨gg, 0, none⟩ = some (.int .i64 g0) := (blk_cell BKgg.out 0).trans rfl; have zgg1 : w3.cell? ⟨gg, 1, none⟩ = some (.int .i64 g1) := (blk_cell BKgg.out 1).trans rfl; skip))
  apply share
  case h =>
    intro hG
    go_region_held3 (fun w' => w'.cell? ⟨gg, 0, none⟩ = some (.int .i64 g0) ∧ w'.cell? ⟨gg, 1, none⟩ = some (.int .i64 g1))
      (((try dsimp only); (first | assumption | exact ⟨zgg0, zgg1⟩ | exact keep2 (below_alloc (Below.refl _ _) _) (by assumption))))
      ((first | (go_at_call 174; refine (boxes_none _).mono ?_; rintro e w9 ⟨rfl, rfl⟩)))
    all_goals
      have b3 : Below w3.heap.size w3 (((w3.alloc (.cells #[.int .i64 g0, .int .i64 g1] 27)).alloc (.cells #[.slice A1 b.length c1, .slice (some ⟨w3.heap.size, 0, none⟩) 1 1] 38)).drew) := below_drew (below_alloc (below_alloc (Below.refl _ _) _) _)
      have kO : (((w3.alloc (.cells #[.int .i64 g0, .int .i64 g1] 27)).alloc (.cells #[.slice A1 b.length c1, .slice (some ⟨w3.heap.size, 0, none⟩) 1 1] 38)).drew).heap[w3.heap.size + 1]? = some (.cells #[.slice A1 b.length c1, .slice (some ⟨w3.heap.size, 0, none⟩) 1 1] 38 (0, 0)) := blk_drew (by have h := blk_new (w3.alloc (.cells #[.int .i64 g0, .int .i64 g1] 27)) (.cells #[.slice A1 b.length c1, .slice (some ⟨w3.heap.size, 0, none⟩) 1 1] 38); rwa [World.size_alloc] at h)
      have hC1 : Kd.C k27 (((w3.alloc (.cells #[.int .i64 g0, .int .i64 g1] 27)).alloc (.cells #[.slice A1 b.length c1, .slice (some ⟨w3.heap.size, 0, none⟩) 1 1] 38)).drew) (some ⟨w3.heap.size, 0, none⟩) 1 [⟨g0, g1⟩] := Kd.C_drew (Kd.C_alloc (C_new27 w3 g0 g1) _)
      have n0_ := Aside0.mk (HB.out.trans (b3.mono HB.out.size))
      have n1_ := Aside0.mk (blk_below BKgs.out b3)
      have n2_ := Aside0.mk (blk_below BKgg.out b3)
      obtain ⟨wx, hwx⟩ : ∃ wx, ((w3.alloc (.cells #[.int .i64 g0, .int .i64 g1] 27)).alloc (.cells #[.slice A1 b.length c1, .slice (some ⟨w3.heap.size, 0, none⟩) 1 1] 38)).drew = wx := ⟨_, rfl⟩
      rw [hwx] at kO hC1 n0_ n1_ n2_ ⊢
      obtain ⟨go, hgo⟩ : ∃ go, w3.heap.size + 1 = go := ⟨_, rfl⟩
      obtain ⟨gi, hgi⟩ : ∃ gi, w3.heap.size = gi := ⟨_, rfl⟩
      rw [hgo] at kO ⊢
      rw [hgi] at kO hC1 ⊢
      have kN0 := n0_.out
      have kN1 := n1_.out
      have kN2 := n2_.out
      clear hwx hgo hgi b3 n0_ n1_ n2_
      revert kO hC1 kN0 kN1 kN2
      revert gi
      revert go
      revert wx
      exact hG.out
  case hg =>
    clear HB BKgs BKgg zgg0 zgg1
    intro wx go gi hC1 kO n0_ n1_ n2_
    have KO := Aside0.mk kO
    have HC1 := Aside0.mk hC1
    have HB := Aside0.mk n0_
    have BKgs := Aside0.mk n1_
    have BKgg := Aside0.mk n2_
    clear kO hC1 n0_ n1_ n2_
    try go_wp2
    go_loopw [29] (fun v29 wr => ∃ i : Nat, v29 = .int .i64 i ∧ Aside0 (i ≤ 2 ∧ (1 ≤ i → boxB b = true) ∧ (2 ≤ i → okS g0 g1 = true)) ∧ Aside0 (Below wx.heap.size wx wr)) (fun v29 _ => 2 - (intOf v29).toNat)
    case atStart => exact ⟨0, rfl, ⟨by omega, by omega, by omega⟩, ⟨Below.refl _ _⟩⟩
    case round =>
      obtain ⟨i, rfl, HA, HI⟩ := hrel
      have z0 := (blk_cell (blk_below KO.out HI.out) 0).trans rfl
      have z1 := (blk_cell (blk_below KO.out HI.out) 1).trans rfl
      by_cases hi : i < 2
      · rcases (show i = 0 ∨ i = 1 by omega) with rfl | rfl
        · rw [show ((0 : Nat) : Int) = 0 from rfl]
          rcases Bool.eq_false_or_eq_true (boxB b) with hbx | hbx
          · have ck := check_total b
            rw [hbx] at ck
            have HK := Aside0.mk ck
            have HX := Aside0.mk hbx
            clear ck hbx
            go_wp2_with (go_at_call 26; refine (spans_Check.calls A1 c1 b _ _ (Kd.C_below HR.out (HB.out.trans (HI.out.mono HB.out.size))) hc HK.out).mono ?_; rintro e w9 ⟨rfl, hb⟩; have HB9 := Aside0.mk (HI.out.trans (hb.mono HI.out.size)); clear hb)
            exact ⟨⟨1, rfl, ⟨by omega, fun _ => HX.out, by omega⟩, HB9⟩, by decide⟩
          · have ck := check_total b
            rw [hbx] at ck
            have HK := Aside0.mk ck
            have HX := Aside0.mk hbx
            clear ck hbx
            go_wp2_with (go_at_call 26; refine (spans_Check.calls A1 c1 b _ _ (Kd.C_below HR.out (HB.out.trans (HI.out.mono HB.out.size))) hc HK.out).mono ?_; rintro e w9 ⟨rfl, hb⟩; have HB9 := Aside0.mk (HI.out.trans (hb.mono HI.out.size)); clear hb)
            refine bodyPost_ret (results_list (rs := [.tmp 10, .tmp 11]) rfl (by simp) (.tmp (.tmp .nil))) rfl ?_
            exact ⟨rfl, HB.out.trans (HB9.out.mono HB.out.size)⟩
        · rw [show ((1 : Nat) : Int) = 1 from rfl]
          have hg : okS g0 g1 = false := by have h1 := HA.out.2.1 (by omega); have h2 := HN.out; rw [h1] at h2; simpa using h2
          have ck := check_total [⟨g0, g1⟩]
          rw [box1, hg] at ck
          have HK := Aside0.mk ck
          clear ck hg
          go_wp2_with (go_at_call 26; refine (spans_Check.calls _ 1 [⟨g0, g1⟩] _ _ (Kd.C_below HC1.out HI.out) (Nat.le_refl _) HK.out).mono ?_; rintro e w9 ⟨rfl, hb⟩; have HB9 := Aside0.mk (HI.out.trans (hb.mono HI.out.size)); clear hb)
          refine bodyPost_ret (results_list (rs := [.tmp 10, .tmp 11]) rfl (by simp) (.tmp (.tmp .nil))) rfl ?_
          exact ⟨rfl, HB.out.trans (HB9.out.mono HB.out.size)⟩
      · obtain rfl : i = 2 := by have := HA.out.1; omega
        have h1 := HA.out.2.1 (by omega)
        have h2 := HA.out.2.2 (by omega)
        have h3 := HN.out
        rw [h1, h2] at h3
        exact absurd h3 (by decide)
def newSet.T11 : Bool × List (List Nat × List Nat) := (true, [([], []), ([0], [0]), ([1], [1]), ([2], [2]), ([3], [3]), ([4, 3], [3, 4]), ([5, 3], [3, 5]), ([6, 3], [3, 6]), ([3], [3]), ([8, 3], [3, 8]), ([9, 3], [3, 9]), ([10, 3], [3, 10]), ([7, 11, 3], [3, 7, 11]), ([12, 3, 3], [3, 12]), ([13, 3], [3, 13]), ([3, 14], [3, 14]), ([15, 13], [15]), ([16], [16]), ([17, 16], [16, 17]), ([18, 16], [16, 18]), ([19, 16], [16, 19]), ([16], [16]), ([21, 16], [16, 21]), ([22, 16], [16, 22]), ([23, 16], [16, 23]), ([20, 24, 16], [16, 20, 24]), ([25, 16, 16], [16, 25]), ([26, 16], [16, 26]), ([16, 27], [16, 27]), ([28, 26], [28]), ([29], [29]), ([30, 29], [29, 30]), ([31, 29, 29], [29, 31]), ([32, 29], [29, 32]), ([29, 33], [29, 33]), ([34, 32], [34]), ([35], [35]), ([36, 35], [35, 36]), ([37, 35, 35], [35, 37]), ([38, 35], [35, 38]), ([35, 39], [35, 39]), ([40, 38], [40]), ([41], [41]), ([42, 41, 41], [41, 42]), ([43, 41], [41, 43]), ([41, 44], [41, 44])])
def newSet.B11 : List Nat := [0, 1, 3, 7, 15, 31, 63, 127, 15, 271, 783, 1807, 4095, 8191, 16383, 32767, 65535, 131071, 262143, 524287, 1048575, 131071, 2228223, 6422527, 14811135, 33554431, 67108863, 134217727, 268435455, 536870911, 1073741823, 2147483647, 4294967295, 8589934591, 17179869183, 34359738367, 68719476735, 137438953471, 274877906943, 549755813887, 1099511627775, 2199023255551, 4398046511103, 8796093022207, 17592186044415, 35184372088831]
theorem newSet.tab11 : rtab .any (opsOf Try.f142 11) = newSet.T11 := by kernel_rfl
theorem newSet.bits11 : waitsOk newSet.T11.2 newSet.B11 = true := by kernel_rfl
set_option maxRecDepth 100000 in
set_option maxHeartbeats 4000000 in
theorem newSet_1len (n m D : Int) (A1 : Option Addr) (c1 : Nat) (b : List S27) (g0 g1 N : Int) (w : World) (hs : slB n m D = true) (hr : Kd.C k27 w A1 b.length b) (hc : b.length ≤ c1) (hb1 : boxB b = true) (hb2 : okS g0 g1 = true) (hl : b.length ≠ 2) :
    Calls Try.prog 142 #[.agg #[.int .i64 n, .int .i64 m, .int .i64 D], .slice A1 b.length c1, .agg #[.int .i64 g0, .int .i64 g1], .int .i64 N, .slice none 0 0] w fun e w' => e = .returned (.tuple #[.pointer none, .int .i64 1]) ∧ Below w.heap.size w w' := by
  have HS := Aside0.mk hs
  have HR := Aside0.mk hr
  have HX := Aside0.mk hb1
  have HX2 := Aside0.mk hb2
  have ck := check_total b
  rw [hb1] at ck
  have HK := Aside0.mk ck
  have ck2 := check_total [⟨g0, g1⟩]
  rw [box1, hb2] at ck2
  have HK2 := Aside0.mk ck2
  clear hs hr hb1 hb2 ck ck2
  have HLen := Aside0.mk hl
  clear hl
  have HB := Aside0.mk (Below.refl w.heap.size w)
  go_enter Try.func142, Try.ntmps142
  go_wp2_with (first | ((with_reducible refine gate_dst (N := 5) rfl ?_); refine box_event ?hg (N := 5) ?hd (cs := #[.int .i64 n, .int .i64 m, .int .i64 D]) (t := 105) ?hr ?_; (case hd => rfl); (case hg => rfl); (case hr => first | (go_simp; done) | (go_simp; rfl)); intro gs hg w1 hbox hb; have n0_ := Aside0.mk (below_step HB.out hb); have x0_ := Aside0.mk (hbox); have x1_ := Aside0.mk ((by rw [hg]; exact HB.out.size : w.heap.size ≤ gs)); clear HB; have HB := n0_; clear n0_; have BKgs := x0_; clear x0_; have GEgs := x1_; clear x1_; clear hb hbox hg; skip) | ((with_reducible refine gate_dst (N := 7) rfl ?_); refine box_event ?hg (N := 7) ?hd (cs := #[.int .i64 g0, .int .i64 g1]) (t := 27) ?hr ?_; (case hd => rfl); (case hg => rfl); (case hr => first | (go_simp; done) | (go_simp; rfl)); intro gg hg w2 hbox hb; have n0_ := Aside0.mk (below_step HB.out hb); have m0_ := Aside0.mk (blk_below BKgs.out hb); have x0_ := Aside0.mk (hbox); have x1_ := Aside0.mk ((by rw [hg]; exact HB.out.size : w.heap.size ≤ gg)); clear HB; have HB := n0_; clear n0_; clear BKgs; have BKgs := m0_; clear m0_; have BKgg := x0_; clear x0_; have GEgg := x1_; clear x1_; clear hb hbox hg; have zgs0 : w2.cell? ⟨gs, 0, none⟩ = some (.int .i64 n) := (blk_cell BKgs.out 0).trans rfl; have zgs1 : w2.cell? ⟨gs, 1, none⟩ = some (.int .i64 m) := (blk_cell BKgs.out 1).trans rfl; have zgs2 : w2.cell? ⟨gs, 2, none⟩ = some (.int .i64 D) := (blk_cell BKgs.out 2).trans rfl; skip) | (go_at_call 68; refine (chk_yes n m D HS.out _).mono ?_; rintro e w3 ⟨rfl, hb⟩; have n0_ := Aside0.mk (below_step HB.out hb); have m0_ := Aside0.mk (blk_below BKgs.out hb); have m1_ := Aside0.mk (blk_below BKgg.out hb); clear HB; have HB := n0_; clear n0_; clear BKgs; have BKgs := m0_; clear m0_; clear BKgg; have BKgg := m1_; clear m1_; clear hb; clear zgs0; clear zgs1; clear zgs2; have zgg0 : w3.cell? ⟨gg, 0, none⟩ = some (.int .i64 g0) := (blk_cell BKgg.out 0).trans rfl; have zgg1 : w3.cell? ⟨gg, 1, none⟩ = some (.int .i64 g1) := (blk_cell BKgg.out 1).trans rfl; skip))
  apply share
  case h =>
    intro hG
    go_region_held3 (fun w' => w'.cell? ⟨gg, 0, none⟩ = some (.int .i64 g0) ∧ w'.cell? ⟨gg, 1, none⟩ = some (.int .i64 g1))
      (((try dsimp only); (first | assumption | exact ⟨zgg0, zgg1⟩ | exact keep2 (below_alloc (Below.refl _ _) _) (by assumption))))
      ((first | (go_at_call 174; refine (boxes_none _).mono ?_; rintro e w9 ⟨rfl, rfl⟩)))
    all_goals
      have b3 : Below w3.heap.size w3 (((w3.alloc (.cells #[.int .i64 g0, .int .i64 g1] 27)).alloc (.cells #[.slice A1 b.length c1, .slice (some ⟨w3.heap.size, 0, none⟩) 1 1] 38)).drew) := below_drew (below_alloc (below_alloc (Below.refl _ _) _) _)
      have kO : (((w3.alloc (.cells #[.int .i64 g0, .int .i64 g1] 27)).alloc (.cells #[.slice A1 b.length c1, .slice (some ⟨w3.heap.size, 0, none⟩) 1 1] 38)).drew).heap[w3.heap.size + 1]? = some (.cells #[.slice A1 b.length c1, .slice (some ⟨w3.heap.size, 0, none⟩) 1 1] 38 (0, 0)) := blk_drew (by have h := blk_new (w3.alloc (.cells #[.int .i64 g0, .int .i64 g1] 27)) (.cells #[.slice A1 b.length c1, .slice (some ⟨w3.heap.size, 0, none⟩) 1 1] 38); rwa [World.size_alloc] at h)
      have hC1 : Kd.C k27 (((w3.alloc (.cells #[.int .i64 g0, .int .i64 g1] 27)).alloc (.cells #[.slice A1 b.length c1, .slice (some ⟨w3.heap.size, 0, none⟩) 1 1] 38)).drew) (some ⟨w3.heap.size, 0, none⟩) 1 [⟨g0, g1⟩] := Kd.C_drew (Kd.C_alloc (C_new27 w3 g0 g1) _)
      have n0_ := Aside0.mk (HB.out.trans (b3.mono HB.out.size))
      have n1_ := Aside0.mk (blk_below BKgs.out b3)
      have n2_ := Aside0.mk (blk_below BKgg.out b3)
      obtain ⟨wx, hwx⟩ : ∃ wx, ((w3.alloc (.cells #[.int .i64 g0, .int .i64 g1] 27)).alloc (.cells #[.slice A1 b.length c1, .slice (some ⟨w3.heap.size, 0, none⟩) 1 1] 38)).drew = wx := ⟨_, rfl⟩
      rw [hwx] at kO hC1 n0_ n1_ n2_ ⊢
      obtain ⟨go, hgo⟩ : ∃ go, w3.heap.size + 1 = go := ⟨_, rfl⟩
      obtain ⟨gi, hgi⟩ : ∃ gi, w3.heap.size = gi := ⟨_, rfl⟩
      rw [hgo] at kO ⊢
      rw [hgi] at kO hC1 ⊢
      have kN0 := n0_.out
      have kN1 := n1_.out
      have kN2 := n2_.out
      clear hwx hgo hgi b3 n0_ n1_ n2_
      revert kO hC1 kN0 kN1 kN2
      revert gi
      revert go
      revert wx
      exact hG.out
  case hg =>
    clear HB BKgs BKgg zgg0 zgg1
    intro wx go gi hC1 kO n0_ n1_ n2_
    have KO := Aside0.mk kO
    have HC1 := Aside0.mk hC1
    have HB := Aside0.mk n0_
    have BKgs := Aside0.mk n1_
    have BKgg := Aside0.mk n2_
    clear kO hC1 n0_ n1_ n2_
    try go_wp2
    go_loopw [29] (fun v29 wr => ∃ i : Nat, v29 = .int .i64 i ∧ Aside0 (i ≤ 2 ∧ (1 ≤ i → boxB b = true) ∧ (2 ≤ i → okS g0 g1 = true)) ∧ Aside0 (Below wx.heap.size wx wr)) (fun v29 _ => 2 - (intOf v29).toNat)
    case atStart => exact ⟨0, rfl, ⟨by omega, by omega, by omega⟩, ⟨Below.refl _ _⟩⟩
    case round =>
      obtain ⟨i, rfl, HA, HI⟩ := hrel
      have z0 := (blk_cell (blk_below KO.out HI.out) 0).trans rfl
      have z1 := (blk_cell (blk_below KO.out HI.out) 1).trans rfl
      by_cases hi : i < 2
      · rcases (show i = 0 ∨ i = 1 by omega) with rfl | rfl
        · rw [show ((0 : Nat) : Int) = 0 from rfl]
          go_wp2_with (go_at_call 26; refine (spans_Check.calls A1 c1 b _ _ (Kd.C_below HR.out (HB.out.trans (HI.out.mono HB.out.size))) hc HK.out).mono ?_; rintro e w9 ⟨rfl, hb⟩; have HB9 := Aside0.mk (HI.out.trans (hb.mono HI.out.size)); clear hb)
          exact ⟨⟨1, rfl, ⟨by omega, fun _ => HX.out, by omega⟩, HB9⟩, by decide⟩
        · rw [show ((1 : Nat) : Int) = 1 from rfl]
          go_wp2_with (go_at_call 26; refine (spans_Check.calls _ 1 [⟨g0, g1⟩] _ _ (Kd.C_below HC1.out HI.out) (Nat.le_refl _) HK2.out).mono ?_; rintro e w9 ⟨rfl, hb⟩; have HB9 := Aside0.mk (HI.out.trans (hb.mono HI.out.size)); clear hb)
          exact ⟨⟨2, rfl, ⟨by omega, fun _ => HX.out, fun _ => HX2.out⟩, HB9⟩, by decide⟩
      · obtain rfl : i = 2 := by have := HA.out.1; omega
        have hbw := HB.out.trans (HI.out.mono HB.out.size)
        have n0_ := Aside0.mk hbw
        have n1_ := Aside0.mk (blk_below BKgs.out HI.out)
        have n2_ := Aside0.mk (blk_below BKgg.out HI.out)
        clear HB BKgs BKgg hbw
        have HB := n0_
        have BKgs := n1_
        have BKgg := n2_
        clear n0_ n1_ n2_ HI KO HC1 z0 z1 hi HA
        have zgg0 : wr.cell? ⟨gg, 0, none⟩ = some (.int .i64 g0) := (blk_cell BKgg.out 0).trans rfl
        have zgg1 : wr.cell? ⟨gg, 1, none⟩ = some (.int .i64 g1) := (blk_cell BKgg.out 1).trans rfl
        have hne : ((b.length : Int) != 2) = true := by have := HLen.out; simp; omega
        go_wp2
        refine start_ (n := 46) (S := fun w' => w'.cell? ⟨gg, 0, none⟩ = some (.int .i64 g0) ∧ w'.cell? ⟨gg, 1, none⟩ = some (.int .i64 g1)) (ds := []) (mk 46 0) (by kernel_rfl) rfl (by kernel_rfl) ⟨zgg0, zgg1⟩ (fun hHeld => ?_)
        refine with_tabW newSet.tab11 newSet.bits11 (fun HT_ HW_ => ?_)
        have hb0 := below_drew1 HB.out
        have hk0 := blk_drew BKgs.out
        have hk1 := blk_drew BKgg.out
        generalize wr.drew = wz at hb0 hk0 hk1 hHeld ⊢
        clear HB BKgs BKgg zgg0 zgg1
        have HB := Aside0.mk hb0
        have BKgs := Aside0.mk hk0
        have BKgg := Aside0.mk hk1
        clear hb0 hk0 hk1
        refine pu_ 0 39 (mk 46 1) HT_ ?_
        refine pu_ 1 40 (mk 46 3) HT_ ?_
        refine pu_ 2 41 (mk 46 7) HT_ ?_
        refine pu_ 3 42 (mk 46 15) HT_ ?_
        refine no_ 4 43 (mk 46 31) HT_ ?_
        refine no_ 5 44 (mk 46 63) HT_ ?_
        refine no_ 6 45 (mk 46 127) HT_ ?_
        refine no_ 7 46 (mk 46 255) HT_ ?_
        refine no_ 8 47 (mk 46 511) HT_ ?_
        refine no_ 9 48 (mk 46 1023) HT_ ?_
        refine no_ 10 49 (mk 46 2047) HT_ ?_
        refine no_ 11 50 (mk 46 4095) HT_ ?_
        refine no_ 12 51 (mk 46 8191) HT_ ?_
        refine no_ 13 52 (mk 46 16383) HT_ ?_
        refine no_ 14 53 (mk 46 32767) HT_ ?_
        refine pu_ 15 54 (mk 46 65535) HT_ ?_
        refine pu_ 16 55 (mk 46 131071) HT_ ?_
        refine no_ 17 56 (mk 46 262143) HT_ ?_
        refine no_ 18 57 (mk 46 524287) HT_ ?_
        refine no_ 19 58 (mk 46 1048575) HT_ ?_
        refine no_ 20 59 (mk 46 2097151) HT_ ?_
        refine no_ 21 60 (mk 46 4194303) HT_ ?_
        refine no_ 22 61 (mk 46 8388607) HT_ ?_
        refine no_ 23 62 (mk 46 16777215) HT_ ?_
        refine no_ 24 63 (mk 46 33554431) HT_ ?_
        refine no_ 25 64 (mk 46 67108863) HT_ ?_
        refine no_ 26 65 (mk 46 134217727) HT_ ?_
        refine no_ 27 66 (mk 46 268435455) HT_ ?_
        refine pu_ 28 67 (mk 46 536870911) HT_ ?_
        refine pu_ 29 68 (mk 46 1073741823) HT_ ?_
        refine no_ 30 69 (mk 46 2147483647) HT_ ?_
        refine no_ 31 70 (mk 46 4294967295) HT_ ?_
        refine no_ 32 71 (mk 46 8589934591) HT_ ?_
        refine no_ 33 72 (mk 46 17179869183) HT_ ?_
        refine pu_ 34 73 (mk 46 34359738367) HT_ ?_
        refine pu_ 35 74 (mk 46 68719476735) HT_ ?_
        refine no_ 36 75 (mk 46 137438953471) HT_ ?_
        refine no_ 37 76 (mk 46 274877906943) HT_ ?_
        refine no_ 38 77 (mk 46 549755813887) HT_ ?_
        refine no_ 39 78 (mk 46 1099511627775) HT_ ?_
        refine pu_ 40 79 (mk 46 2199023255551) HT_ ?_
        refine pu_ 41 80 (mk 46 4398046511103) HT_ ?_
        refine no_ 42 81 (mk 46 8796093022207) HT_ ?_
        refine no_ 43 82 (mk 46 17592186044415) HT_ ?_
        refine no_ 44 83 (mk 46 35184372088831) HT_ ?_
        refine pu_ 45 84 (mk 46 70368744177663) HT_ ?_
        refine done_ (done_of HT_.out (by kernel_rfl)) ?_
        go_wp2
        refine bodyPost_ret (results_list (rs := [.tmp 10, .tmp 11]) rfl (by simp) (.tmp (.tmp .nil))) rfl ?_
        exact ⟨rfl, HB.out⟩
set_option maxRecDepth 100000 in
set_option maxHeartbeats 4000000 in
theorem newSet_1_1 (n m D : Int) (A1 : Option Addr) (c1 : Nat) (b : List S27) (g0 g1 N : Int) (w : World) (hs : slB n m D = true) (hr : Kd.C k27 w A1 b.length b) (hc : b.length ≤ c1) (hb1 : boxB b = true) (hb2 : okS g0 g1 = true) (hl : b.length = 2) (ha : stB (b.getD 0 z27).f0 (b.getD 1 z27).f0 = false) :
    Calls Try.prog 142 #[.agg #[.int .i64 n, .int .i64 m, .int .i64 D], .slice A1 b.length c1, .agg #[.int .i64 g0, .int .i64 g1], .int .i64 N, .slice none 0 0] w fun e w' => e = .returned (.tuple #[.pointer none, .int .i64 1]) ∧ Below w.heap.size w w' := by
  have HS := Aside0.mk hs
  have HR := Aside0.mk hr
  have HX := Aside0.mk hb1
  have HX2 := Aside0.mk hb2
  have ck := check_total b
  rw [hb1] at ck
  have HK := Aside0.mk ck
  have ck2 := check_total [⟨g0, g1⟩]
  rw [box1, hb2] at ck2
  have HK2 := Aside0.mk ck2
  clear hs hr hb1 hb2 ck ck2
  have HLen := Aside0.mk hl
  obtain ⟨p, hp⟩ : ∃ p, b.getD 0 z27 = p := ⟨_, rfl⟩
  obtain ⟨q, hq⟩ : ∃ q, b.getD 1 z27 = q := ⟨_, rfl⟩
  rw [hp, hq] at ha
  have HPQ : Aside0 (b.getD 0 z27 = p ∧ b.getD 1 z27 = q) := ⟨⟨hp, hq⟩⟩
  clear hp hq
  have H1 : Aside0 (stB p.f0 q.f0 = false) := ⟨ha⟩
  clear ha hl
  have HB := Aside0.mk (Below.refl w.heap.size w)
  go_enter Try.func142, Try.ntmps142
  go_wp2_with (first | ((with_reducible refine gate_dst (N := 5) rfl ?_); refine box_event ?hg (N := 5) ?hd (cs := #[.int .i64 n, .int .i64 m, .int .i64 D]) (t := 105) ?hr ?_; (case hd => rfl); (case hg => rfl); (case hr => first | (go_simp; done) | (go_simp; rfl)); intro gs hg w1 hbox hb; have n0_ := Aside0.mk (below_step HB.out hb); have x0_ := Aside0.mk (hbox); have x1_ := Aside0.mk ((by rw [hg]; exact HB.out.size : w.heap.size ≤ gs)); clear HB; have HB := n0_; clear n0_; have BKgs := x0_; clear x0_; have GEgs := x1_; clear x1_; clear hb hbox hg; skip) | ((with_reducible refine gate_dst (N := 7) rfl ?_); refine box_event ?hg (N := 7) ?hd (cs := #[.int .i64 g0, .int .i64 g1]) (t := 27) ?hr ?_; (case hd => rfl); (case hg => rfl); (case hr => first | (go_simp; done) | (go_simp; rfl)); intro gg hg w2 hbox hb; have n0_ := Aside0.mk (below_step HB.out hb); have m0_ := Aside0.mk (blk_below BKgs.out hb); have x0_ := Aside0.mk (hbox); have x1_ := Aside0.mk ((by rw [hg]; exact HB.out.size : w.heap.size ≤ gg)); clear HB; have HB := n0_; clear n0_; clear BKgs; have BKgs := m0_; clear m0_; have BKgg := x0_; clear x0_; have GEgg := x1_; clear x1_; clear hb hbox hg; have zgs0 : w2.cell? ⟨gs, 0, none⟩ = some (.int .i64 n) := (blk_cell BKgs.out 0).trans rfl; have zgs1 : w2.cell? ⟨gs, 1, none⟩ = some (.int .i64 m) := (blk_cell BKgs.out 1).trans rfl; have zgs2 : w2.cell? ⟨gs, 2, none⟩ = some (.int .i64 D) := (blk_cell BKgs.out 2).trans rfl; skip) | (go_at_call 68; refine (chk_yes n m D HS.out _).mono ?_; rintro e w3 ⟨rfl, hb⟩; have n0_ := Aside0.mk (below_step HB.out hb); have m0_ := Aside0.mk (blk_below BKgs.out hb); have m1_ := Aside0.mk (blk_below BKgg.out hb); clear HB; have HB := n0_; clear n0_; clear BKgs; have BKgs := m0_; clear m0_; clear BKgg; have BKgg := m1_; clear m1_; clear hb; clear zgs0; clear zgs1; clear zgs2; have zgg0 : w3.cell? ⟨gg, 0, none⟩ = some (.int .i64 g0) := (blk_cell BKgg.out 0).trans rfl; have zgg1 : w3.cell? ⟨gg, 1, none⟩ = some (.int .i64 g1) := (blk_cell BKgg.out 1).trans rfl; skip))
  apply share
  case h =>
    intro hG
    go_region_held3 (fun w' => w'.cell? ⟨gg, 0, none⟩ = some (.int .i64 g0) ∧ w'.cell? ⟨gg, 1, none⟩ = some (.int .i64 g1))
      (((try dsimp only); (first | assumption | exact ⟨zgg0, zgg1⟩ | exact keep2 (below_alloc (Below.refl _ _) _) (by assumption))))
      ((first | (go_at_call 174; refine (boxes_none _).mono ?_; rintro e w9 ⟨rfl, rfl⟩)))
    all_goals
      have b3 : Below w3.heap.size w3 (((w3.alloc (.cells #[.int .i64 g0, .int .i64 g1] 27)).alloc (.cells #[.slice A1 b.length c1, .slice (some ⟨w3.heap.size, 0, none⟩) 1 1] 38)).drew) := below_drew (below_alloc (below_alloc (Below.refl _ _) _) _)
      have kO : (((w3.alloc (.cells #[.int .i64 g0, .int .i64 g1] 27)).alloc (.cells #[.slice A1 b.length c1, .slice (some ⟨w3.heap.size, 0, none⟩) 1 1] 38)).drew).heap[w3.heap.size + 1]? = some (.cells #[.slice A1 b.length c1, .slice (some ⟨w3.heap.size, 0, none⟩) 1 1] 38 (0, 0)) := blk_drew (by have h := blk_new (w3.alloc (.cells #[.int .i64 g0, .int .i64 g1] 27)) (.cells #[.slice A1 b.length c1, .slice (some ⟨w3.heap.size, 0, none⟩) 1 1] 38); rwa [World.size_alloc] at h)
      have hC1 : Kd.C k27 (((w3.alloc (.cells #[.int .i64 g0, .int .i64 g1] 27)).alloc (.cells #[.slice A1 b.length c1, .slice (some ⟨w3.heap.size, 0, none⟩) 1 1] 38)).drew) (some ⟨w3.heap.size, 0, none⟩) 1 [⟨g0, g1⟩] := Kd.C_drew (Kd.C_alloc (C_new27 w3 g0 g1) _)
      have n0_ := Aside0.mk (HB.out.trans (b3.mono HB.out.size))
      have n1_ := Aside0.mk (blk_below BKgs.out b3)
      have n2_ := Aside0.mk (blk_below BKgg.out b3)
      obtain ⟨wx, hwx⟩ : ∃ wx, ((w3.alloc (.cells #[.int .i64 g0, .int .i64 g1] 27)).alloc (.cells #[.slice A1 b.length c1, .slice (some ⟨w3.heap.size, 0, none⟩) 1 1] 38)).drew = wx := ⟨_, rfl⟩
      rw [hwx] at kO hC1 n0_ n1_ n2_ ⊢
      obtain ⟨go, hgo⟩ : ∃ go, w3.heap.size + 1 = go := ⟨_, rfl⟩
      obtain ⟨gi, hgi⟩ : ∃ gi, w3.heap.size = gi := ⟨_, rfl⟩
      rw [hgo] at kO ⊢
      rw [hgi] at kO hC1 ⊢
      have kN0 := n0_.out
      have kN1 := n1_.out
      have kN2 := n2_.out
      clear hwx hgo hgi b3 n0_ n1_ n2_
      revert kO hC1 kN0 kN1 kN2
      revert gi
      revert go
      revert wx
      exact hG.out
  case hg =>
    clear HB BKgs BKgg zgg0 zgg1
    intro wx go gi hC1 kO n0_ n1_ n2_
    have KO := Aside0.mk kO
    have HC1 := Aside0.mk hC1
    have HB := Aside0.mk n0_
    have BKgs := Aside0.mk n1_
    have BKgg := Aside0.mk n2_
    clear kO hC1 n0_ n1_ n2_
    try go_wp2
    go_loopw [29] (fun v29 wr => ∃ i : Nat, v29 = .int .i64 i ∧ Aside0 (i ≤ 2 ∧ (1 ≤ i → boxB b = true) ∧ (2 ≤ i → okS g0 g1 = true)) ∧ Aside0 (Below wx.heap.size wx wr)) (fun v29 _ => 2 - (intOf v29).toNat)
    case atStart => exact ⟨0, rfl, ⟨by omega, by omega, by omega⟩, ⟨Below.refl _ _⟩⟩
    case round =>
      obtain ⟨i, rfl, HA, HI⟩ := hrel
      have z0 := (blk_cell (blk_below KO.out HI.out) 0).trans rfl
      have z1 := (blk_cell (blk_below KO.out HI.out) 1).trans rfl
      by_cases hi : i < 2
      · rcases (show i = 0 ∨ i = 1 by omega) with rfl | rfl
        · rw [show ((0 : Nat) : Int) = 0 from rfl]
          go_wp2_with (go_at_call 26; refine (spans_Check.calls A1 c1 b _ _ (Kd.C_below HR.out (HB.out.trans (HI.out.mono HB.out.size))) hc HK.out).mono ?_; rintro e w9 ⟨rfl, hb⟩; have HB9 := Aside0.mk (HI.out.trans (hb.mono HI.out.size)); clear hb)
          exact ⟨⟨1, rfl, ⟨by omega, fun _ => HX.out, by omega⟩, HB9⟩, by decide⟩
        · rw [show ((1 : Nat) : Int) = 1 from rfl]
          go_wp2_with (go_at_call 26; refine (spans_Check.calls _ 1 [⟨g0, g1⟩] _ _ (Kd.C_below HC1.out HI.out) (Nat.le_refl _) HK2.out).mono ?_; rintro e w9 ⟨rfl, hb⟩; have HB9 := Aside0.mk (HI.out.trans (hb.mono HI.out.size)); clear hb)
          exact ⟨⟨2, rfl, ⟨by omega, fun _ => HX.out, fun _ => HX2.out⟩, HB9⟩, by decide⟩
      · obtain rfl : i = 2 := by have := HA.out.1; omega
        have hbw := HB.out.trans (HI.out.mono HB.out.size)
        have n0_ := Aside0.mk hbw
        have n1_ := Aside0.mk (blk_below BKgs.out HI.out)
        have n2_ := Aside0.mk (blk_below BKgg.out HI.out)
        clear HB BKgs BKgg hbw
        have HB := n0_
        have BKgs := n1_
        have BKgg := n2_
        clear n0_ n1_ n2_ HI KO HC1 z0 z1 hi HA
        have zgg0 : wr.cell? ⟨gg, 0, none⟩ = some (.int .i64 g0) := (blk_cell BKgg.out 0).trans rfl
        have zgg1 : wr.cell? ⟨gg, 1, none⟩ = some (.int .i64 g1) := (blk_cell BKgg.out 1).trans rfl
        have hlen : b.length = 2 := HLen.out
        obtain ⟨ad, e0, zp0, zp1⟩ := at_T27 (Kd.C_below HR.out HB.out) 0 (by omega) (by omega)
        obtain ⟨ad2, e1, zq0, zq1⟩ := at_T27 (Kd.C_below HR.out HB.out) 1 (by omega) (by omega)
        rw [e0] at e1
        injection e1 with e1
        subst e1
        subst e0
        rw [show Int.toNat 0 * 2 = 0 from rfl] at zp0 zp1
        rw [show Int.toNat 1 * 2 = 2 from rfl] at zq0 zq1
        rw [show rd_T27 b 0 = p from HPQ.out.1] at zp0 zp1
        rw [show rd_T27 b 1 = q from HPQ.out.2] at zq0 zq1
        rw [show ad.add 0 = ad from rfl] at zp0 zp1
        rw [show ad.add 2 = ⟨ad.block, ad.off + 2, none⟩ from rfl] at zq0 zq1
        have hlt0 : (0 : Int) < (b.length : Int) := by omega
        have hlt1 : (1 : Int) < (b.length : Int) := by omega
        have hn0 : 0 < b.length := by omega
        have hn1 : 1 < b.length := by omega
        have hne : ((b.length : Int) != 2) = false := by simp; omega
        clear hlen
        go_wp2
        refine start_ (n := 46) (S := fun w' => w'.cell? ⟨gg, 0, none⟩ = some (.int .i64 g0) ∧ w'.cell? ⟨gg, 1, none⟩ = some (.int .i64 g1) ∧ w'.cell? ad = some (.int .i64 p.f0) ∧ w'.cell? ⟨ad.block, ad.off + 1, none⟩ = some (.int .i64 p.f1) ∧ w'.cell? ⟨ad.block, ad.off + 2, none⟩ = some (.int .i64 q.f0) ∧ w'.cell? ⟨ad.block, ad.off + 3, none⟩ = some (.int .i64 q.f1)) (ds := []) (mk 46 0) (by kernel_rfl) rfl (by kernel_rfl) ⟨zgg0, zgg1, zp0, zp1, zq0, zq1⟩ (fun hHeld => ?_)
        refine with_tabW newSet.tab11 newSet.bits11 (fun HT_ HW_ => ?_)
        have hb0 := below_drew1 HB.out
        have hk0 := blk_drew BKgs.out
        have hk1 := blk_drew BKgg.out
        generalize wr.drew = wz at hb0 hk0 hk1 hHeld ⊢
        clear HB BKgs BKgg zgg0 zgg1 zp0 zp1 zq0 zq1
        have HB := Aside0.mk hb0
        have BKgs := Aside0.mk hk0
        have BKgg := Aside0.mk hk1
        clear hb0 hk0 hk1
        refine pu_ 0 39 (mk 46 1) HT_ ?_
        refine pu_ 1 40 (mk 46 3) HT_ ?_
        refine pu_ 2 41 (mk 46 7) HT_ ?_
        refine pu_ 3 42 (mk 46 15) HT_ ?_
        refine pu_ 4 43 (mk 46 31) HT_ ?_
        refine pu_ 5 44 (mk 46 63) HT_ ?_
        refine pu_ 6 45 (mk 46 127) HT_ ?_
        refine tk_ 7 46 (mk 46 255) HT_ HW_ hHeld ?_
        refine pu_ 8 47 (mk 46 511) HT_ ?_
        refine pu_ 9 48 (mk 46 1023) HT_ ?_
        refine pu_ 10 49 (mk 46 2047) HT_ ?_
        refine tk_ 11 50 (mk 46 4095) HT_ HW_ hHeld ?_
        refine pu_ 12 51 (mk 46 8191) HT_ ?_
        refine one_ (i := 13) (N := some 52) (mk 46 16383) rfl rfl (one_of HT_.out (by kernel_rfl)) (by decide) (fun K hK => ?_)
        refine goes_ Try.func129 (by kernel_rfl) rfl #[.agg #[.int .i64 p.f0, .int .i64 q.f0]] (by rfl) rfl rfl (by (try simp only [List.map_toArray, List.map_cons, List.map_nil]); first | done | rfl | (simp only [List.length_drop, List.length_take]; rfl)) ?_
        with_reducible refine (started_calls p.f0 q.f0 _).mono ?_
        rw [H1.out]; rintro e wn0 ⟨rfl, hb⟩
        refine ⟨_, rfl, ?_⟩
        have n0_ := Aside0.mk (below_step HB.out hb)
        have n1_ := Aside0.mk (blk_below BKgs.out hb)
        have n2_ := Aside0.mk (blk_below BKgg.out hb)
        clear HB BKgs BKgg
        have HB := n0_
        have BKgs := n1_
        have BKgg := n2_
        clear n0_ n1_ n2_
        refine hK.out _ _ ⟨(hb.cell (World.block_lt_of_cell? _ _ hHeld.1)).trans hHeld.1, (hb.cell (World.block_lt_of_cell? _ _ hHeld.2.1)).trans hHeld.2.1, (hb.cell (World.block_lt_of_cell? _ _ hHeld.2.2.1)).trans hHeld.2.2.1, (hb.cell (World.block_lt_of_cell? _ _ hHeld.2.2.2.1)).trans hHeld.2.2.2.1, (hb.cell (World.block_lt_of_cell? _ _ hHeld.2.2.2.2.1)).trans hHeld.2.2.2.2.1, (hb.cell (World.block_lt_of_cell? _ _ hHeld.2.2.2.2.2)).trans hHeld.2.2.2.2.2⟩ (fun hHeld => ?_)
        clear hK K
        refine nm_ ?_
        clear hb
        refine pu_ 14 53 (mk 46 32767) HT_ ?_
        refine pu_ 15 54 (mk 46 65535) HT_ ?_
        refine pu_ 16 55 (mk 46 131071) HT_ ?_
        refine no_ 17 56 (mk 46 262143) HT_ ?_
        refine no_ 18 57 (mk 46 524287) HT_ ?_
        refine no_ 19 58 (mk 46 1048575) HT_ ?_
        refine no_ 20 59 (mk 46 2097151) HT_ ?_
        refine no_ 21 60 (mk 46 4194303) HT_ ?_
        refine no_ 22 61 (mk 46 8388607) HT_ ?_
        refine no_ 23 62 (mk 46 16777215) HT_ ?_
        refine no_ 24 63 (mk 46 33554431) HT_ ?_
        refine no_ 25 64 (mk 46 67108863) HT_ ?_
        refine no_ 26 65 (mk 46 134217727) HT_ ?_
        refine no_ 27 66 (mk 46 268435455) HT_ ?_
        refine pu_ 28 67 (mk 46 536870911) HT_ ?_
        refine pu_ 29 68 (mk 46 1073741823) HT_ ?_
        refine no_ 30 69 (mk 46 2147483647) HT_ ?_
        refine no_ 31 70 (mk 46 4294967295) HT_ ?_
        refine no_ 32 71 (mk 46 8589934591) HT_ ?_
        refine no_ 33 72 (mk 46 17179869183) HT_ ?_
        refine pu_ 34 73 (mk 46 34359738367) HT_ ?_
        refine pu_ 35 74 (mk 46 68719476735) HT_ ?_
        refine no_ 36 75 (mk 46 137438953471) HT_ ?_
        refine no_ 37 76 (mk 46 274877906943) HT_ ?_
        refine no_ 38 77 (mk 46 549755813887) HT_ ?_
        refine no_ 39 78 (mk 46 1099511627775) HT_ ?_
        refine pu_ 40 79 (mk 46 2199023255551) HT_ ?_
        refine pu_ 41 80 (mk 46 4398046511103) HT_ ?_
        refine no_ 42 81 (mk 46 8796093022207) HT_ ?_
        refine no_ 43 82 (mk 46 17592186044415) HT_ ?_
        refine no_ 44 83 (mk 46 35184372088831) HT_ ?_
        refine pu_ 45 84 (mk 46 70368744177663) HT_ ?_
        refine done_ (done_of HT_.out (by kernel_rfl)) ?_
        go_wp2
        refine bodyPost_ret (results_list (rs := [.tmp 10, .tmp 11]) rfl (by simp) (.tmp (.tmp .nil))) rfl ?_
        exact ⟨rfl, HB.out⟩
set_option maxRecDepth 100000 in
set_option maxHeartbeats 4000000 in
theorem newSet_1_2 (n m D : Int) (A1 : Option Addr) (c1 : Nat) (b : List S27) (g0 g1 N : Int) (w : World) (hs : slB n m D = true) (hr : Kd.C k27 w A1 b.length b) (hc : b.length ≤ c1) (hb1 : boxB b = true) (hb2 : okS g0 g1 = true) (hl : b.length = 2) (ha : stB (b.getD 0 z27).f0 (b.getD 1 z27).f0 = true ∧ stB (b.getD 0 z27).f1 (b.getD 1 z27).f1 = false) :
    Calls Try.prog 142 #[.agg #[.int .i64 n, .int .i64 m, .int .i64 D], .slice A1 b.length c1, .agg #[.int .i64 g0, .int .i64 g1], .int .i64 N, .slice none 0 0] w fun e w' => e = .returned (.tuple #[.pointer none, .int .i64 1]) ∧ Below w.heap.size w w' := by
  have HS := Aside0.mk hs
  have HR := Aside0.mk hr
  have HX := Aside0.mk hb1
  have HX2 := Aside0.mk hb2
  have ck := check_total b
  rw [hb1] at ck
  have HK := Aside0.mk ck
  have ck2 := check_total [⟨g0, g1⟩]
  rw [box1, hb2] at ck2
  have HK2 := Aside0.mk ck2
  clear hs hr hb1 hb2 ck ck2
  have HLen := Aside0.mk hl
  obtain ⟨p, hp⟩ : ∃ p, b.getD 0 z27 = p := ⟨_, rfl⟩
  obtain ⟨q, hq⟩ : ∃ q, b.getD 1 z27 = q := ⟨_, rfl⟩
  rw [hp, hq] at ha
  have HPQ : Aside0 (b.getD 0 z27 = p ∧ b.getD 1 z27 = q) := ⟨⟨hp, hq⟩⟩
  clear hp hq
  have H1 : Aside0 (stB p.f0 q.f0 = true) := ⟨ha.1⟩
  have H2 : Aside0 (stB p.f1 q.f1 = false) := ⟨ha.2⟩
  clear ha hl
  have HB := Aside0.mk (Below.refl w.heap.size w)
  go_enter Try.func142, Try.ntmps142
  go_wp2_with (first | ((with_reducible refine gate_dst (N := 5) rfl ?_); refine box_event ?hg (N := 5) ?hd (cs := #[.int .i64 n, .int .i64 m, .int .i64 D]) (t := 105) ?hr ?_; (case hd => rfl); (case hg => rfl); (case hr => first | (go_simp; done) | (go_simp; rfl)); intro gs hg w1 hbox hb; have n0_ := Aside0.mk (below_step HB.out hb); have x0_ := Aside0.mk (hbox); have x1_ := Aside0.mk ((by rw [hg]; exact HB.out.size : w.heap.size ≤ gs)); clear HB; have HB := n0_; clear n0_; have BKgs := x0_; clear x0_; have GEgs := x1_; clear x1_; clear hb hbox hg; skip) | ((with_reducible refine gate_dst (N := 7) rfl ?_); refine box_event ?hg (N := 7) ?hd (cs := #[.int .i64 g0, .int .i64 g1]) (t := 27) ?hr ?_; (case hd => rfl); (case hg => rfl); (case hr => first | (go_simp; done) | (go_simp; rfl)); intro gg hg w2 hbox hb; have n0_ := Aside0.mk (below_step HB.out hb); have m0_ := Aside0.mk (blk_below BKgs.out hb); have x0_ := Aside0.mk (hbox); have x1_ := Aside0.mk ((by rw [hg]; exact HB.out.size : w.heap.size ≤ gg)); clear HB; have HB := n0_; clear n0_; clear BKgs; have BKgs := m0_; clear m0_; have BKgg := x0_; clear x0_; have GEgg := x1_; clear x1_; clear hb hbox hg; have zgs0 : w2.cell? ⟨gs, 0, none⟩ = some (.int .i64 n) := (blk_cell BKgs.out 0).trans rfl; have zgs1 : w2.cell? ⟨gs, 1, none⟩ = some (.int .i64 m) := (blk_cell BKgs.out 1).trans rfl; have zgs2 : w2.cell? ⟨gs, 2, none⟩ = some (.int .i64 D) := (blk_cell BKgs.out 2).trans rfl; skip) | (go_at_call 68; refine (chk_yes n m D HS.out _).mono ?_; rintro e w3 ⟨rfl, hb⟩; have n0_ := Aside0.mk (below_step HB.out hb); have m0_ := Aside0.mk (blk_below BKgs.out hb); have m1_ := Aside0.mk (blk_below BKgg.out hb); clear HB; have HB := n0_; clear n0_; clear BKgs; have BKgs := m0_; clear m0_; clear BKgg; have BKgg := m1_; clear m1_; clear hb; clear zgs0; clear zgs1; clear zgs2; have zgg0 : w3.cell? ⟨gg, 0, none⟩ = some (.int .i64 g0) := (blk_cell BKgg.out 0).trans rfl; have zgg1 : w3.cell? ⟨gg, 1, none⟩ = some (.int .i64 g1) := (blk_cell BKgg.out 1).trans rfl; skip))
  apply share
  case h =>
    intro hG
    go_region_held3 (fun w' => w'.cell? ⟨gg, 0, none⟩ = some (.int .i64 g0) ∧ w'.cell? ⟨gg, 1, none⟩ = some (.int .i64 g1))
      (((try dsimp only); (first | assumption | exact ⟨zgg0, zgg1⟩ | exact keep2 (below_alloc (Below.refl _ _) _) (by assumption))))
      ((first | (go_at_call 174; refine (boxes_none _).mono ?_; rintro e w9 ⟨rfl, rfl⟩)))
    all_goals
      have b3 : Below w3.heap.size w3 (((w3.alloc (.cells #[.int .i64 g0, .int .i64 g1] 27)).alloc (.cells #[.slice A1 b.length c1, .slice (some ⟨w3.heap.size, 0, none⟩) 1 1] 38)).drew) := below_drew (below_alloc (below_alloc (Below.refl _ _) _) _)
      have kO : (((w3.alloc (.cells #[.int .i64 g0, .int .i64 g1] 27)).alloc (.cells #[.slice A1 b.length c1, .slice (some ⟨w3.heap.size, 0, none⟩) 1 1] 38)).drew).heap[w3.heap.size + 1]? = some (.cells #[.slice A1 b.length c1, .slice (some ⟨w3.heap.size, 0, none⟩) 1 1] 38 (0, 0)) := blk_drew (by have h := blk_new (w3.alloc (.cells #[.int .i64 g0, .int .i64 g1] 27)) (.cells #[.slice A1 b.length c1, .slice (some ⟨w3.heap.size, 0, none⟩) 1 1] 38); rwa [World.size_alloc] at h)
      have hC1 : Kd.C k27 (((w3.alloc (.cells #[.int .i64 g0, .int .i64 g1] 27)).alloc (.cells #[.slice A1 b.length c1, .slice (some ⟨w3.heap.size, 0, none⟩) 1 1] 38)).drew) (some ⟨w3.heap.size, 0, none⟩) 1 [⟨g0, g1⟩] := Kd.C_drew (Kd.C_alloc (C_new27 w3 g0 g1) _)
      have n0_ := Aside0.mk (HB.out.trans (b3.mono HB.out.size))
      have n1_ := Aside0.mk (blk_below BKgs.out b3)
      have n2_ := Aside0.mk (blk_below BKgg.out b3)
      obtain ⟨wx, hwx⟩ : ∃ wx, ((w3.alloc (.cells #[.int .i64 g0, .int .i64 g1] 27)).alloc (.cells #[.slice A1 b.length c1, .slice (some ⟨w3.heap.size, 0, none⟩) 1 1] 38)).drew = wx := ⟨_, rfl⟩
      rw [hwx] at kO hC1 n0_ n1_ n2_ ⊢
      obtain ⟨go, hgo⟩ : ∃ go, w3.heap.size + 1 = go := ⟨_, rfl⟩
      obtain ⟨gi, hgi⟩ : ∃ gi, w3.heap.size = gi := ⟨_, rfl⟩
      rw [hgo] at kO ⊢
      rw [hgi] at kO hC1 ⊢
      have kN0 := n0_.out
      have kN1 := n1_.out
      have kN2 := n2_.out
      clear hwx hgo hgi b3 n0_ n1_ n2_
      revert kO hC1 kN0 kN1 kN2
      revert gi
      revert go
      revert wx
      exact hG.out
  case hg =>
    clear HB BKgs BKgg zgg0 zgg1
    intro wx go gi hC1 kO n0_ n1_ n2_
    have KO := Aside0.mk kO
    have HC1 := Aside0.mk hC1
    have HB := Aside0.mk n0_
    have BKgs := Aside0.mk n1_
    have BKgg := Aside0.mk n2_
    clear kO hC1 n0_ n1_ n2_
    try go_wp2
    go_loopw [29] (fun v29 wr => ∃ i : Nat, v29 = .int .i64 i ∧ Aside0 (i ≤ 2 ∧ (1 ≤ i → boxB b = true) ∧ (2 ≤ i → okS g0 g1 = true)) ∧ Aside0 (Below wx.heap.size wx wr)) (fun v29 _ => 2 - (intOf v29).toNat)
    case atStart => exact ⟨0, rfl, ⟨by omega, by omega, by omega⟩, ⟨Below.refl _ _⟩⟩
    case round =>
      obtain ⟨i, rfl, HA, HI⟩ := hrel
      have z0 := (blk_cell (blk_below KO.out HI.out) 0).trans rfl
      have z1 := (blk_cell (blk_below KO.out HI.out) 1).trans rfl
      by_cases hi : i < 2
      · rcases (show i = 0 ∨ i = 1 by omega) with rfl | rfl
        · rw [show ((0 : Nat) : Int) = 0 from rfl]
          go_wp2_with (go_at_call 26; refine (spans_Check.calls A1 c1 b _ _ (Kd.C_below HR.out (HB.out.trans (HI.out.mono HB.out.size))) hc HK.out).mono ?_; rintro e w9 ⟨rfl, hb⟩; have HB9 := Aside0.mk (HI.out.trans (hb.mono HI.out.size)); clear hb)
          exact ⟨⟨1, rfl, ⟨by omega, fun _ => HX.out, by omega⟩, HB9⟩, by decide⟩
        · rw [show ((1 : Nat) : Int) = 1 from rfl]
          go_wp2_with (go_at_call 26; refine (spans_Check.calls _ 1 [⟨g0, g1⟩] _ _ (Kd.C_below HC1.out HI.out) (Nat.le_refl _) HK2.out).mono ?_; rintro e w9 ⟨rfl, hb⟩; have HB9 := Aside0.mk (HI.out.trans (hb.mono HI.out.size)); clear hb)
          exact ⟨⟨2, rfl, ⟨by omega, fun _ => HX.out, fun _ => HX2.out⟩, HB9⟩, by decide⟩
      · obtain rfl : i = 2 := by have := HA.out.1; omega
        have hbw := HB.out.trans (HI.out.mono HB.out.size)
        have n0_ := Aside0.mk hbw
        have n1_ := Aside0.mk (blk_below BKgs.out HI.out)
        have n2_ := Aside0.mk (blk_below BKgg.out HI.out)
        clear HB BKgs BKgg hbw
        have HB := n0_
        have BKgs := n1_
        have BKgg := n2_
        clear n0_ n1_ n2_ HI KO HC1 z0 z1 hi HA
        have zgg0 : wr.cell? ⟨gg, 0, none⟩ = some (.int .i64 g0) := (blk_cell BKgg.out 0).trans rfl
        have zgg1 : wr.cell? ⟨gg, 1, none⟩ = some (.int .i64 g1) := (blk_cell BKgg.out 1).trans rfl
        have hlen : b.length = 2 := HLen.out
        obtain ⟨ad, e0, zp0, zp1⟩ := at_T27 (Kd.C_below HR.out HB.out) 0 (by omega) (by omega)
        obtain ⟨ad2, e1, zq0, zq1⟩ := at_T27 (Kd.C_below HR.out HB.out) 1 (by omega) (by omega)
        rw [e0] at e1
        injection e1 with e1
        subst e1
        subst e0
        rw [show Int.toNat 0 * 2 = 0 from rfl] at zp0 zp1
        rw [show Int.toNat 1 * 2 = 2 from rfl] at zq0 zq1
        rw [show rd_T27 b 0 = p from HPQ.out.1] at zp0 zp1
        rw [show rd_T27 b 1 = q from HPQ.out.2] at zq0 zq1
        rw [show ad.add 0 = ad from rfl] at zp0 zp1
        rw [show ad.add 2 = ⟨ad.block, ad.off + 2, none⟩ from rfl] at zq0 zq1
        have hlt0 : (0 : Int) < (b.length : Int) := by omega
        have hlt1 : (1 : Int) < (b.length : Int) := by omega
        have hn0 : 0 < b.length := by omega
        have hn1 : 1 < b.length := by omega
        have hne : ((b.length : Int) != 2) = false := by simp; omega
        clear hlen
        go_wp2
        refine start_ (n := 46) (S := fun w' => w'.cell? ⟨gg, 0, none⟩ = some (.int .i64 g0) ∧ w'.cell? ⟨gg, 1, none⟩ = some (.int .i64 g1) ∧ w'.cell? ad = some (.int .i64 p.f0) ∧ w'.cell? ⟨ad.block, ad.off + 1, none⟩ = some (.int .i64 p.f1) ∧ w'.cell? ⟨ad.block, ad.off + 2, none⟩ = some (.int .i64 q.f0) ∧ w'.cell? ⟨ad.block, ad.off + 3, none⟩ = some (.int .i64 q.f1)) (ds := []) (mk 46 0) (by kernel_rfl) rfl (by kernel_rfl) ⟨zgg0, zgg1, zp0, zp1, zq0, zq1⟩ (fun hHeld => ?_)
        refine with_tabW newSet.tab11 newSet.bits11 (fun HT_ HW_ => ?_)
        have hb0 := below_drew1 HB.out
        have hk0 := blk_drew BKgs.out
        have hk1 := blk_drew BKgg.out
        generalize wr.drew = wz at hb0 hk0 hk1 hHeld ⊢
        clear HB BKgs BKgg zgg0 zgg1 zp0 zp1 zq0 zq1
        have HB := Aside0.mk hb0
        have BKgs := Aside0.mk hk0
        have BKgg := Aside0.mk hk1
        clear hb0 hk0 hk1
        refine pu_ 0 39 (mk 46 1) HT_ ?_
        refine pu_ 1 40 (mk 46 3) HT_ ?_
        refine pu_ 2 41 (mk 46 7) HT_ ?_
        refine pu_ 3 42 (mk 46 15) HT_ ?_
        refine pu_ 4 43 (mk 46 31) HT_ ?_
        refine pu_ 5 44 (mk 46 63) HT_ ?_
        refine pu_ 6 45 (mk 46 127) HT_ ?_
        refine tk_ 7 46 (mk 46 255) HT_ HW_ hHeld ?_
        refine pu_ 8 47 (mk 46 511) HT_ ?_
        refine pu_ 9 48 (mk 46 1023) HT_ ?_
        refine pu_ 10 49 (mk 46 2047) HT_ ?_
        refine tk_ 11 50 (mk 46 4095) HT_ HW_ hHeld ?_
        refine pu_ 12 51 (mk 46 8191) HT_ ?_
        refine one_ (i := 13) (N := some 52) (mk 46 16383) rfl rfl (one_of HT_.out (by kernel_rfl)) (by decide) (fun K hK => ?_)
        refine goes_ Try.func129 (by kernel_rfl) rfl #[.agg #[.int .i64 p.f0, .int .i64 q.f0]] (by rfl) rfl rfl (by (try simp only [List.map_toArray, List.map_cons, List.map_nil]); first | done | rfl | (simp only [List.length_drop, List.length_take]; rfl)) ?_
        with_reducible refine (started_calls p.f0 q.f0 _).mono ?_
        rw [H1.out]; rintro e wn0 ⟨rfl, hb⟩
        refine ⟨_, rfl, ?_⟩
        have n0_ := Aside0.mk (below_step HB.out hb)
        have n1_ := Aside0.mk (blk_below BKgs.out hb)
        have n2_ := Aside0.mk (blk_below BKgg.out hb)
        clear HB BKgs BKgg
        have HB := n0_
        have BKgs := n1_
        have BKgg := n2_
        clear n0_ n1_ n2_
        refine hK.out _ _ ⟨(hb.cell (World.block_lt_of_cell? _ _ hHeld.1)).trans hHeld.1, (hb.cell (World.block_lt_of_cell? _ _ hHeld.2.1)).trans hHeld.2.1, (hb.cell (World.block_lt_of_cell? _ _ hHeld.2.2.1)).trans hHeld.2.2.1, (hb.cell (World.block_lt_of_cell? _ _ hHeld.2.2.2.1)).trans hHeld.2.2.2.1, (hb.cell (World.block_lt_of_cell? _ _ hHeld.2.2.2.2.1)).trans hHeld.2.2.2.2.1, (hb.cell (World.block_lt_of_cell? _ _ hHeld.2.2.2.2.2)).trans hHeld.2.2.2.2.2⟩ (fun hHeld => ?_)
        clear hK K
        refine nm_ ?_
        clear hb
        refine pu_ 14 53 (mk 46 32767) HT_ ?_
        refine pu_ 15 54 (mk 46 65535) HT_ ?_
        refine pu_ 16 55 (mk 46 131071) HT_ ?_
        refine pu_ 17 56 (mk 46 262143) HT_ ?_
        refine pu_ 18 57 (mk 46 524287) HT_ ?_
        refine pu_ 19 58 (mk 46 1048575) HT_ ?_
        refine tk_ 20 59 (mk 46 2097151) HT_ HW_ hHeld ?_
        refine pu_ 21 60 (mk 46 4194303) HT_ ?_
        refine pu_ 22 61 (mk 46 8388607) HT_ ?_
        refine pu_ 23 62 (mk 46 16777215) HT_ ?_
        refine tk_ 24 63 (mk 46 33554431) HT_ HW_ hHeld ?_
        refine pu_ 25 64 (mk 46 67108863) HT_ ?_
        refine one_ (i := 26) (N := some 65) (mk 46 134217727) rfl rfl (one_of HT_.out (by kernel_rfl)) (by decide) (fun K hK => ?_)
        refine goes_ Try.func129 (by kernel_rfl) rfl #[.agg #[.int .i64 p.f1, .int .i64 q.f1]] (by rfl) rfl rfl (by (try simp only [List.map_toArray, List.map_cons, List.map_nil]); first | done | rfl | (simp only [List.length_drop, List.length_take]; rfl)) ?_
        with_reducible refine (started_calls p.f1 q.f1 _).mono ?_
        rw [H2.out]; rintro e wn1 ⟨rfl, hb⟩
        refine ⟨_, rfl, ?_⟩
        have n0_ := Aside0.mk (below_step HB.out hb)
        have n1_ := Aside0.mk (blk_below BKgs.out hb)
        have n2_ := Aside0.mk (blk_below BKgg.out hb)
        clear HB BKgs BKgg
        have HB := n0_
        have BKgs := n1_
        have BKgg := n2_
        clear n0_ n1_ n2_
        refine hK.out _ _ ⟨(hb.cell (World.block_lt_of_cell? _ _ hHeld.1)).trans hHeld.1, (hb.cell (World.block_lt_of_cell? _ _ hHeld.2.1)).trans hHeld.2.1, (hb.cell (World.block_lt_of_cell? _ _ hHeld.2.2.1)).trans hHeld.2.2.1, (hb.cell (World.block_lt_of_cell? _ _ hHeld.2.2.2.1)).trans hHeld.2.2.2.1, (hb.cell (World.block_lt_of_cell? _ _ hHeld.2.2.2.2.1)).trans hHeld.2.2.2.2.1, (hb.cell (World.block_lt_of_cell? _ _ hHeld.2.2.2.2.2)).trans hHeld.2.2.2.2.2⟩ (fun hHeld => ?_)
        clear hK K
        refine nm_ ?_
        clear hb
        refine pu_ 27 66 (mk 46 268435455) HT_ ?_
        refine pu_ 28 67 (mk 46 536870911) HT_ ?_
        refine pu_ 29 68 (mk 46 1073741823) HT_ ?_
        refine no_ 30 69 (mk 46 2147483647) HT_ ?_
        refine no_ 31 70 (mk 46 4294967295) HT_ ?_
        refine no_ 32 71 (mk 46 8589934591) HT_ ?_
        refine no_ 33 72 (mk 46 17179869183) HT_ ?_
        refine pu_ 34 73 (mk 46 34359738367) HT_ ?_
        refine pu_ 35 74 (mk 46 68719476735) HT_ ?_
        refine no_ 36 75 (mk 46 137438953471) HT_ ?_
        refine no_ 37 76 (mk 46 274877906943) HT_ ?_
        refine no_ 38 77 (mk 46 549755813887) HT_ ?_
        refine no_ 39 78 (mk 46 1099511627775) HT_ ?_
        refine pu_ 40 79 (mk 46 2199023255551) HT_ ?_
        refine pu_ 41 80 (mk 46 4398046511103) HT_ ?_
        refine no_ 42 81 (mk 46 8796093022207) HT_ ?_
        refine no_ 43 82 (mk 46 17592186044415) HT_ ?_
        refine no_ 44 83 (mk 46 35184372088831) HT_ ?_
        refine pu_ 45 84 (mk 46 70368744177663) HT_ ?_
        refine done_ (done_of HT_.out (by kernel_rfl)) ?_
        go_wp2
        refine bodyPost_ret (results_list (rs := [.tmp 10, .tmp 11]) rfl (by simp) (.tmp (.tmp .nil))) rfl ?_
        exact ⟨rfl, HB.out⟩
set_option maxRecDepth 100000 in
set_option maxHeartbeats 4000000 in
theorem newSet_1_3 (n m D : Int) (A1 : Option Addr) (c1 : Nat) (b : List S27) (g0 g1 N : Int) (w : World) (hs : slB n m D = true) (hr : Kd.C k27 w A1 b.length b) (hc : b.length ≤ c1) (hb1 : boxB b = true) (hb2 : okS g0 g1 = true) (hl : b.length = 2) (ha : stB (b.getD 0 z27).f0 (b.getD 1 z27).f0 = true ∧ stB (b.getD 0 z27).f1 (b.getD 1 z27).f1 = true ∧ guB g0 = false) :
    Calls Try.prog 142 #[.agg #[.int .i64 n, .int .i64 m, .int .i64 D], .slice A1 b.length c1, .agg #[.int .i64 g0, .int .i64 g1], .int .i64 N, .slice none 0 0] w fun e w' => e = .returned (.tuple #[.pointer none, .int .i64 1]) ∧ Below w.heap.size w w' := by
  have HS := Aside0.mk hs
  have HR := Aside0.mk hr
  have HX := Aside0.mk hb1
  have HX2 := Aside0.mk hb2
  have ck := check_total b
  rw [hb1] at ck
  have HK := Aside0.mk ck
  have ck2 := check_total [⟨g0, g1⟩]
  rw [box1, hb2] at ck2
  have HK2 := Aside0.mk ck2
  clear hs hr hb1 hb2 ck ck2
  have HLen := Aside0.mk hl
  obtain ⟨p, hp⟩ : ∃ p, b.getD 0 z27 = p := ⟨_, rfl⟩
  obtain ⟨q, hq⟩ : ∃ q, b.getD 1 z27 = q := ⟨_, rfl⟩
  rw [hp, hq] at ha
  have HPQ : Aside0 (b.getD 0 z27 = p ∧ b.getD 1 z27 = q) := ⟨⟨hp, hq⟩⟩
  clear hp hq
  have H1 : Aside0 (stB p.f0 q.f0 = true) := ⟨ha.1⟩
  have H2 : Aside0 (stB p.f1 q.f1 = true) := ⟨ha.2.1⟩
  have H3 : Aside0 (sling_within.f g0 (-100) 100 = some false) := ⟨by rw [sw7]; exact congrArg some ha.2.2⟩
  clear ha hl
  have HB := Aside0.mk (Below.refl w.heap.size w)
  go_enter Try.func142, Try.ntmps142
  go_wp2_with (first | ((with_reducible refine gate_dst (N := 5) rfl ?_); refine box_event ?hg (N := 5) ?hd (cs := #[.int .i64 n, .int .i64 m, .int .i64 D]) (t := 105) ?hr ?_; (case hd => rfl); (case hg => rfl); (case hr => first | (go_simp; done) | (go_simp; rfl)); intro gs hg w1 hbox hb; have n0_ := Aside0.mk (below_step HB.out hb); have x0_ := Aside0.mk (hbox); have x1_ := Aside0.mk ((by rw [hg]; exact HB.out.size : w.heap.size ≤ gs)); clear HB; have HB := n0_; clear n0_; have BKgs := x0_; clear x0_; have GEgs := x1_; clear x1_; clear hb hbox hg; skip) | ((with_reducible refine gate_dst (N := 7) rfl ?_); refine box_event ?hg (N := 7) ?hd (cs := #[.int .i64 g0, .int .i64 g1]) (t := 27) ?hr ?_; (case hd => rfl); (case hg => rfl); (case hr => first | (go_simp; done) | (go_simp; rfl)); intro gg hg w2 hbox hb; have n0_ := Aside0.mk (below_step HB.out hb); have m0_ := Aside0.mk (blk_below BKgs.out hb); have x0_ := Aside0.mk (hbox); have x1_ := Aside0.mk ((by rw [hg]; exact HB.out.size : w.heap.size ≤ gg)); clear HB; have HB := n0_; clear n0_; clear BKgs; have BKgs := m0_; clear m0_; have BKgg := x0_; clear x0_; have GEgg := x1_; clear x1_; clear hb hbox hg; have zgs0 : w2.cell? ⟨gs, 0, none⟩ = some (.int .i64 n) := (blk_cell BKgs.out 0).trans rfl; have zgs1 : w2.cell? ⟨gs, 1, none⟩ = some (.int .i64 m) := (blk_cell BKgs.out 1).trans rfl; have zgs2 : w2.cell? ⟨gs, 2, none⟩ = some (.int .i64 D) := (blk_cell BKgs.out 2).trans rfl; skip) | (go_at_call 68; refine (chk_yes n m D HS.out _).mono ?_; rintro e w3 ⟨rfl, hb⟩; have n0_ := Aside0.mk (below_step HB.out hb); have m0_ := Aside0.mk (blk_below BKgs.out hb); have m1_ := Aside0.mk (blk_below BKgg.out hb); clear HB; have HB := n0_; clear n0_; clear BKgs; have BKgs := m0_; clear m0_; clear BKgg; have BKgg := m1_; clear m1_; clear hb; clear zgs0; clear zgs1; clear zgs2; have zgg0 : w3.cell? ⟨gg, 0, none⟩ = some (.int .i64 g0) := (blk_cell BKgg.out 0).trans rfl; have zgg1 : w3.cell? ⟨gg, 1, none⟩ = some (.int .i64 g1) := (blk_cell BKgg.out 1).trans rfl; skip))
  apply share
  case h =>
    intro hG
    go_region_held3 (fun w' => w'.cell? ⟨gg, 0, none⟩ = some (.int .i64 g0) ∧ w'.cell? ⟨gg, 1, none⟩ = some (.int .i64 g1))
      (((try dsimp only); (first | assumption | exact ⟨zgg0, zgg1⟩ | exact keep2 (below_alloc (Below.refl _ _) _) (by assumption))))
      ((first | (go_at_call 174; refine (boxes_none _).mono ?_; rintro e w9 ⟨rfl, rfl⟩)))
    all_goals
      have b3 : Below w3.heap.size w3 (((w3.alloc (.cells #[.int .i64 g0, .int .i64 g1] 27)).alloc (.cells #[.slice A1 b.length c1, .slice (some ⟨w3.heap.size, 0, none⟩) 1 1] 38)).drew) := below_drew (below_alloc (below_alloc (Below.refl _ _) _) _)
      have kO : (((w3.alloc (.cells #[.int .i64 g0, .int .i64 g1] 27)).alloc (.cells #[.slice A1 b.length c1, .slice (some ⟨w3.heap.size, 0, none⟩) 1 1] 38)).drew).heap[w3.heap.size + 1]? = some (.cells #[.slice A1 b.length c1, .slice (some ⟨w3.heap.size, 0, none⟩) 1 1] 38 (0, 0)) := blk_drew (by have h := blk_new (w3.alloc (.cells #[.int .i64 g0, .int .i64 g1] 27)) (.cells #[.slice A1 b.length c1, .slice (some ⟨w3.heap.size, 0, none⟩) 1 1] 38); rwa [World.size_alloc] at h)
      have hC1 : Kd.C k27 (((w3.alloc (.cells #[.int .i64 g0, .int .i64 g1] 27)).alloc (.cells #[.slice A1 b.length c1, .slice (some ⟨w3.heap.size, 0, none⟩) 1 1] 38)).drew) (some ⟨w3.heap.size, 0, none⟩) 1 [⟨g0, g1⟩] := Kd.C_drew (Kd.C_alloc (C_new27 w3 g0 g1) _)
      have n0_ := Aside0.mk (HB.out.trans (b3.mono HB.out.size))
      have n1_ := Aside0.mk (blk_below BKgs.out b3)
      have n2_ := Aside0.mk (blk_below BKgg.out b3)
      obtain ⟨wx, hwx⟩ : ∃ wx, ((w3.alloc (.cells #[.int .i64 g0, .int .i64 g1] 27)).alloc (.cells #[.slice A1 b.length c1, .slice (some ⟨w3.heap.size, 0, none⟩) 1 1] 38)).drew = wx := ⟨_, rfl⟩
      rw [hwx] at kO hC1 n0_ n1_ n2_ ⊢
      obtain ⟨go, hgo⟩ : ∃ go, w3.heap.size + 1 = go := ⟨_, rfl⟩
      obtain ⟨gi, hgi⟩ : ∃ gi, w3.heap.size = gi := ⟨_, rfl⟩
      rw [hgo] at kO ⊢
      rw [hgi] at kO hC1 ⊢
      have kN0 := n0_.out
      have kN1 := n1_.out
      have kN2 := n2_.out
      clear hwx hgo hgi b3 n0_ n1_ n2_
      revert kO hC1 kN0 kN1 kN2
      revert gi
      revert go
      revert wx
      exact hG.out
  case hg =>
    clear HB BKgs BKgg zgg0 zgg1
    intro wx go gi hC1 kO n0_ n1_ n2_
    have KO := Aside0.mk kO
    have HC1 := Aside0.mk hC1
    have HB := Aside0.mk n0_
    have BKgs := Aside0.mk n1_
    have BKgg := Aside0.mk n2_
    clear kO hC1 n0_ n1_ n2_
    try go_wp2
    go_loopw [29] (fun v29 wr => ∃ i : Nat, v29 = .int .i64 i ∧ Aside0 (i ≤ 2 ∧ (1 ≤ i → boxB b = true) ∧ (2 ≤ i → okS g0 g1 = true)) ∧ Aside0 (Below wx.heap.size wx wr)) (fun v29 _ => 2 - (intOf v29).toNat)
    case atStart => exact ⟨0, rfl, ⟨by omega, by omega, by omega⟩, ⟨Below.refl _ _⟩⟩
    case round =>
      obtain ⟨i, rfl, HA, HI⟩ := hrel
      have z0 := (blk_cell (blk_below KO.out HI.out) 0).trans rfl
      have z1 := (blk_cell (blk_below KO.out HI.out) 1).trans rfl
      by_cases hi : i < 2
      · rcases (show i = 0 ∨ i = 1 by omega) with rfl | rfl
        · rw [show ((0 : Nat) : Int) = 0 from rfl]
          go_wp2_with (go_at_call 26; refine (spans_Check.calls A1 c1 b _ _ (Kd.C_below HR.out (HB.out.trans (HI.out.mono HB.out.size))) hc HK.out).mono ?_; rintro e w9 ⟨rfl, hb⟩; have HB9 := Aside0.mk (HI.out.trans (hb.mono HI.out.size)); clear hb)
          exact ⟨⟨1, rfl, ⟨by omega, fun _ => HX.out, by omega⟩, HB9⟩, by decide⟩
        · rw [show ((1 : Nat) : Int) = 1 from rfl]
          go_wp2_with (go_at_call 26; refine (spans_Check.calls _ 1 [⟨g0, g1⟩] _ _ (Kd.C_below HC1.out HI.out) (Nat.le_refl _) HK2.out).mono ?_; rintro e w9 ⟨rfl, hb⟩; have HB9 := Aside0.mk (HI.out.trans (hb.mono HI.out.size)); clear hb)
          exact ⟨⟨2, rfl, ⟨by omega, fun _ => HX.out, fun _ => HX2.out⟩, HB9⟩, by decide⟩
      · obtain rfl : i = 2 := by have := HA.out.1; omega
        have hbw := HB.out.trans (HI.out.mono HB.out.size)
        have n0_ := Aside0.mk hbw
        have n1_ := Aside0.mk (blk_below BKgs.out HI.out)
        have n2_ := Aside0.mk (blk_below BKgg.out HI.out)
        clear HB BKgs BKgg hbw
        have HB := n0_
        have BKgs := n1_
        have BKgg := n2_
        clear n0_ n1_ n2_ HI KO HC1 z0 z1 hi HA
        have zgg0 : wr.cell? ⟨gg, 0, none⟩ = some (.int .i64 g0) := (blk_cell BKgg.out 0).trans rfl
        have zgg1 : wr.cell? ⟨gg, 1, none⟩ = some (.int .i64 g1) := (blk_cell BKgg.out 1).trans rfl
        have hlen : b.length = 2 := HLen.out
        obtain ⟨ad, e0, zp0, zp1⟩ := at_T27 (Kd.C_below HR.out HB.out) 0 (by omega) (by omega)
        obtain ⟨ad2, e1, zq0, zq1⟩ := at_T27 (Kd.C_below HR.out HB.out) 1 (by omega) (by omega)
        rw [e0] at e1
        injection e1 with e1
        subst e1
        subst e0
        rw [show Int.toNat 0 * 2 = 0 from rfl] at zp0 zp1
        rw [show Int.toNat 1 * 2 = 2 from rfl] at zq0 zq1
        rw [show rd_T27 b 0 = p from HPQ.out.1] at zp0 zp1
        rw [show rd_T27 b 1 = q from HPQ.out.2] at zq0 zq1
        rw [show ad.add 0 = ad from rfl] at zp0 zp1
        rw [show ad.add 2 = ⟨ad.block, ad.off + 2, none⟩ from rfl] at zq0 zq1
        have hlt0 : (0 : Int) < (b.length : Int) := by omega
        have hlt1 : (1 : Int) < (b.length : Int) := by omega
        have hn0 : 0 < b.length := by omega
        have hn1 : 1 < b.length := by omega
        have hne : ((b.length : Int) != 2) = false := by simp; omega
        clear hlen
        go_wp2
        refine start_ (n := 46) (S := fun w' => w'.cell? ⟨gg, 0, none⟩ = some (.int .i64 g0) ∧ w'.cell? ⟨gg, 1, none⟩ = some (.int .i64 g1) ∧ w'.cell? ad = some (.int .i64 p.f0) ∧ w'.cell? ⟨ad.block, ad.off + 1, none⟩ = some (.int .i64 p.f1) ∧ w'.cell? ⟨ad.block, ad.off + 2, none⟩ = some (.int .i64 q.f0) ∧ w'.cell? ⟨ad.block, ad.off + 3, none⟩ = some (.int .i64 q.f1)) (ds := []) (mk 46 0) (by kernel_rfl) rfl (by kernel_rfl) ⟨zgg0, zgg1, zp0, zp1, zq0, zq1⟩ (fun hHeld => ?_)
        refine with_tabW newSet.tab11 newSet.bits11 (fun HT_ HW_ => ?_)
        have hb0 := below_drew1 HB.out
        have hk0 := blk_drew BKgs.out
        have hk1 := blk_drew BKgg.out
        generalize wr.drew = wz at hb0 hk0 hk1 hHeld ⊢
        clear HB BKgs BKgg zgg0 zgg1 zp0 zp1 zq0 zq1
        have HB := Aside0.mk hb0
        have BKgs := Aside0.mk hk0
        have BKgg := Aside0.mk hk1
        clear hb0 hk0 hk1
        refine pu_ 0 39 (mk 46 1) HT_ ?_
        refine pu_ 1 40 (mk 46 3) HT_ ?_
        refine pu_ 2 41 (mk 46 7) HT_ ?_
        refine pu_ 3 42 (mk 46 15) HT_ ?_
        refine pu_ 4 43 (mk 46 31) HT_ ?_
        refine pu_ 5 44 (mk 46 63) HT_ ?_
        refine pu_ 6 45 (mk 46 127) HT_ ?_
        refine tk_ 7 46 (mk 46 255) HT_ HW_ hHeld ?_
        refine pu_ 8 47 (mk 46 511) HT_ ?_
        refine pu_ 9 48 (mk 46 1023) HT_ ?_
        refine pu_ 10 49 (mk 46 2047) HT_ ?_
        refine tk_ 11 50 (mk 46 4095) HT_ HW_ hHeld ?_
        refine pu_ 12 51 (mk 46 8191) HT_ ?_
        refine one_ (i := 13) (N := some 52) (mk 46 16383) rfl rfl (one_of HT_.out (by kernel_rfl)) (by decide) (fun K hK => ?_)
        refine goes_ Try.func129 (by kernel_rfl) rfl #[.agg #[.int .i64 p.f0, .int .i64 q.f0]] (by rfl) rfl rfl (by (try simp only [List.map_toArray, List.map_cons, List.map_nil]); first | done | rfl | (simp only [List.length_drop, List.length_take]; rfl)) ?_
        with_reducible refine (started_calls p.f0 q.f0 _).mono ?_
        rw [H1.out]; rintro e wn0 ⟨rfl, hb⟩
        refine ⟨_, rfl, ?_⟩
        have n0_ := Aside0.mk (below_step HB.out hb)
        have n1_ := Aside0.mk (blk_below BKgs.out hb)
        have n2_ := Aside0.mk (blk_below BKgg.out hb)
        clear HB BKgs BKgg
        have HB := n0_
        have BKgs := n1_
        have BKgg := n2_
        clear n0_ n1_ n2_
        refine hK.out _ _ ⟨(hb.cell (World.block_lt_of_cell? _ _ hHeld.1)).trans hHeld.1, (hb.cell (World.block_lt_of_cell? _ _ hHeld.2.1)).trans hHeld.2.1, (hb.cell (World.block_lt_of_cell? _ _ hHeld.2.2.1)).trans hHeld.2.2.1, (hb.cell (World.block_lt_of_cell? _ _ hHeld.2.2.2.1)).trans hHeld.2.2.2.1, (hb.cell (World.block_lt_of_cell? _ _ hHeld.2.2.2.2.1)).trans hHeld.2.2.2.2.1, (hb.cell (World.block_lt_of_cell? _ _ hHeld.2.2.2.2.2)).trans hHeld.2.2.2.2.2⟩ (fun hHeld => ?_)
        clear hK K
        refine nm_ ?_
        clear hb
        refine pu_ 14 53 (mk 46 32767) HT_ ?_
        refine pu_ 15 54 (mk 46 65535) HT_ ?_
        refine pu_ 16 55 (mk 46 131071) HT_ ?_
        refine pu_ 17 56 (mk 46 262143) HT_ ?_
        refine pu_ 18 57 (mk 46 524287) HT_ ?_
        refine pu_ 19 58 (mk 46 1048575) HT_ ?_
        refine tk_ 20 59 (mk 46 2097151) HT_ HW_ hHeld ?_
        refine pu_ 21 60 (mk 46 4194303) HT_ ?_
        refine pu_ 22 61 (mk 46 8388607) HT_ ?_
        refine pu_ 23 62 (mk 46 16777215) HT_ ?_
        refine tk_ 24 63 (mk 46 33554431) HT_ HW_ hHeld ?_
        refine pu_ 25 64 (mk 46 67108863) HT_ ?_
        refine one_ (i := 26) (N := some 65) (mk 46 134217727) rfl rfl (one_of HT_.out (by kernel_rfl)) (by decide) (fun K hK => ?_)
        refine goes_ Try.func129 (by kernel_rfl) rfl #[.agg #[.int .i64 p.f1, .int .i64 q.f1]] (by rfl) rfl rfl (by (try simp only [List.map_toArray, List.map_cons, List.map_nil]); first | done | rfl | (simp only [List.length_drop, List.length_take]; rfl)) ?_
        with_reducible refine (started_calls p.f1 q.f1 _).mono ?_
        rw [H2.out]; rintro e wn1 ⟨rfl, hb⟩
        refine ⟨_, rfl, ?_⟩
        have n0_ := Aside0.mk (below_step HB.out hb)
        have n1_ := Aside0.mk (blk_below BKgs.out hb)
        have n2_ := Aside0.mk (blk_below BKgg.out hb)
        clear HB BKgs BKgg
        have HB := n0_
        have BKgs := n1_
        have BKgg := n2_
        clear n0_ n1_ n2_
        refine hK.out _ _ ⟨(hb.cell (World.block_lt_of_cell? _ _ hHeld.1)).trans hHeld.1, (hb.cell (World.block_lt_of_cell? _ _ hHeld.2.1)).trans hHeld.2.1, (hb.cell (World.block_lt_of_cell? _ _ hHeld.2.2.1)).trans hHeld.2.2.1, (hb.cell (World.block_lt_of_cell? _ _ hHeld.2.2.2.1)).trans hHeld.2.2.2.1, (hb.cell (World.block_lt_of_cell? _ _ hHeld.2.2.2.2.1)).trans hHeld.2.2.2.2.1, (hb.cell (World.block_lt_of_cell? _ _ hHeld.2.2.2.2.2)).trans hHeld.2.2.2.2.2⟩ (fun hHeld => ?_)
        clear hK K
        refine nm_ ?_
        clear hb
        refine pu_ 27 66 (mk 46 268435455) HT_ ?_
        refine pu_ 28 67 (mk 46 536870911) HT_ ?_
        refine pu_ 29 68 (mk 46 1073741823) HT_ ?_
        refine pu_ 30 69 (mk 46 2147483647) HT_ ?_
        refine tk_ 31 70 (mk 46 4294967295) HT_ HW_ hHeld ?_
        refine one_ (i := 32) (N := some 71) (mk 46 8589934591) rfl rfl (one_of HT_.out (by kernel_rfl)) (by decide) (fun K hK => ?_)
        refine goes_ Try.func115 (by kernel_rfl) rfl #[.int .i64 g0, .int .i64 (-100), .int .i64 100] (by rfl) rfl rfl (by (try simp only [List.map_toArray, List.map_cons, List.map_nil]); first | done | rfl | (simp only [List.length_drop, List.length_take]; rfl)) ?_
        with_reducible refine (within_c g0 (-100) 100 _ H3.out _).mono ?_
        rintro e wn2 ⟨rfl, hb⟩
        refine ⟨_, rfl, ?_⟩
        have n0_ := Aside0.mk (below_step HB.out hb)
        have n1_ := Aside0.mk (blk_below BKgs.out hb)
        have n2_ := Aside0.mk (blk_below BKgg.out hb)
        clear HB BKgs BKgg
        have HB := n0_
        have BKgs := n1_
        have BKgg := n2_
        clear n0_ n1_ n2_
        refine hK.out _ _ ⟨(hb.cell (World.block_lt_of_cell? _ _ hHeld.1)).trans hHeld.1, (hb.cell (World.block_lt_of_cell? _ _ hHeld.2.1)).trans hHeld.2.1, (hb.cell (World.block_lt_of_cell? _ _ hHeld.2.2.1)).trans hHeld.2.2.1, (hb.cell (World.block_lt_of_cell? _ _ hHeld.2.2.2.1)).trans hHeld.2.2.2.1, (hb.cell (World.block_lt_of_cell? _ _ hHeld.2.2.2.2.1)).trans hHeld.2.2.2.2.1, (hb.cell (World.block_lt_of_cell? _ _ hHeld.2.2.2.2.2)).trans hHeld.2.2.2.2.2⟩ (fun hHeld => ?_)
        clear hK K
        refine nm_ ?_
        clear hb
        refine pu_ 33 72 (mk 46 17179869183) HT_ ?_
        refine pu_ 34 73 (mk 46 34359738367) HT_ ?_
        refine pu_ 35 74 (mk 46 68719476735) HT_ ?_
        refine no_ 36 75 (mk 46 137438953471) HT_ ?_
        refine no_ 37 76 (mk 46 274877906943) HT_ ?_
        refine no_ 38 77 (mk 46 549755813887) HT_ ?_
        refine no_ 39 78 (mk 46 1099511627775) HT_ ?_
        refine pu_ 40 79 (mk 46 2199023255551) HT_ ?_
        refine pu_ 41 80 (mk 46 4398046511103) HT_ ?_
        refine no_ 42 81 (mk 46 8796093022207) HT_ ?_
        refine no_ 43 82 (mk 46 17592186044415) HT_ ?_
        refine no_ 44 83 (mk 46 35184372088831) HT_ ?_
        refine pu_ 45 84 (mk 46 70368744177663) HT_ ?_
        refine done_ (done_of HT_.out (by kernel_rfl)) ?_
        go_wp2
        refine bodyPost_ret (results_list (rs := [.tmp 10, .tmp 11]) rfl (by simp) (.tmp (.tmp .nil))) rfl ?_
        exact ⟨rfl, HB.out⟩
set_option maxRecDepth 100000 in
set_option maxHeartbeats 4000000 in
theorem newSet_1_4 (n m D : Int) (A1 : Option Addr) (c1 : Nat) (b : List S27) (g0 g1 N : Int) (w : World) (hs : slB n m D = true) (hr : Kd.C k27 w A1 b.length b) (hc : b.length ≤ c1) (hb1 : boxB b = true) (hb2 : okS g0 g1 = true) (hl : b.length = 2) (ha : stB (b.getD 0 z27).f0 (b.getD 1 z27).f0 = true ∧ stB (b.getD 0 z27).f1 (b.getD 1 z27).f1 = true ∧ guB g0 = true ∧ guB g1 = false) :
    Calls Try.prog 142 #[.agg #[.int .i64 n, .int .i64 m, .int .i64 D], .slice A1 b.length c1, .agg #[.int .i64 g0, .int .i64 g1], .int .i64 N, .slice none 0 0] w fun e w' => e = .returned (.tuple #[.pointer none, .int .i64 1]) ∧ Below w.heap.size w w' := by
  have HS := Aside0.mk hs
  have HR := Aside0.mk hr
  have HX := Aside0.mk hb1
  have HX2 := Aside0.mk hb2
  have ck := check_total b
  rw [hb1] at ck
  have HK := Aside0.mk ck
  have ck2 := check_total [⟨g0, g1⟩]
  rw [box1, hb2] at ck2
  have HK2 := Aside0.mk ck2
  clear hs hr hb1 hb2 ck ck2
  have HLen := Aside0.mk hl
  obtain ⟨p, hp⟩ : ∃ p, b.getD 0 z27 = p := ⟨_, rfl⟩
  obtain ⟨q, hq⟩ : ∃ q, b.getD 1 z27 = q := ⟨_, rfl⟩
  rw [hp, hq] at ha
  have HPQ : Aside0 (b.getD 0 z27 = p ∧ b.getD 1 z27 = q) := ⟨⟨hp, hq⟩⟩
  clear hp hq
  have H1 : Aside0 (stB p.f0 q.f0 = true) := ⟨ha.1⟩
  have H2 : Aside0 (stB p.f1 q.f1 = true) := ⟨ha.2.1⟩
  have H3 : Aside0 (sling_within.f g0 (-100) 100 = some true) := ⟨by rw [sw7]; exact congrArg some ha.2.2.1⟩
  have H4 : Aside0 (sling_within.f g1 (-100) 100 = some false) := ⟨by rw [sw7]; exact congrArg some ha.2.2.2⟩
  clear ha hl
  have HB := Aside0.mk (Below.refl w.heap.size w)
  go_enter Try.func142, Try.ntmps142
  go_wp2_with (first | ((with_reducible refine gate_dst (N := 5) rfl ?_); refine box_event ?hg (N := 5) ?hd (cs := #[.int .i64 n, .int .i64 m, .int .i64 D]) (t := 105) ?hr ?_; (case hd => rfl); (case hg => rfl); (case hr => first | (go_simp; done) | (go_simp; rfl)); intro gs hg w1 hbox hb; have n0_ := Aside0.mk (below_step HB.out hb); have x0_ := Aside0.mk (hbox); have x1_ := Aside0.mk ((by rw [hg]; exact HB.out.size : w.heap.size ≤ gs)); clear HB; have HB := n0_; clear n0_; have BKgs := x0_; clear x0_; have GEgs := x1_; clear x1_; clear hb hbox hg; skip) | ((with_reducible refine gate_dst (N := 7) rfl ?_); refine box_event ?hg (N := 7) ?hd (cs := #[.int .i64 g0, .int .i64 g1]) (t := 27) ?hr ?_; (case hd => rfl); (case hg => rfl); (case hr => first | (go_simp; done) | (go_simp; rfl)); intro gg hg w2 hbox hb; have n0_ := Aside0.mk (below_step HB.out hb); have m0_ := Aside0.mk (blk_below BKgs.out hb); have x0_ := Aside0.mk (hbox); have x1_ := Aside0.mk ((by rw [hg]; exact HB.out.size : w.heap.size ≤ gg)); clear HB; have HB := n0_; clear n0_; clear BKgs; have BKgs := m0_; clear m0_; have BKgg := x0_; clear x0_; have GEgg := x1_; clear x1_; clear hb hbox hg; have zgs0 : w2.cell? ⟨gs, 0, none⟩ = some (.int .i64 n) := (blk_cell BKgs.out 0).trans rfl; have zgs1 : w2.cell? ⟨gs, 1, none⟩ = some (.int .i64 m) := (blk_cell BKgs.out 1).trans rfl; have zgs2 : w2.cell? ⟨gs, 2, none⟩ = some (.int .i64 D) := (blk_cell BKgs.out 2).trans rfl; skip) | (go_at_call 68; refine (chk_yes n m D HS.out _).mono ?_; rintro e w3 ⟨rfl, hb⟩; have n0_ := Aside0.mk (below_step HB.out hb); have m0_ := Aside0.mk (blk_below BKgs.out hb); have m1_ := Aside0.mk (blk_below BKgg.out hb); clear HB; have HB := n0_; clear n0_; clear BKgs; have BKgs := m0_; clear m0_; clear BKgg; have BKgg := m1_; clear m1_; clear hb; clear zgs0; clear zgs1; clear zgs2; have zgg0 : w3.cell? ⟨gg, 0, none⟩ = some (.int .i64 g0) := (blk_cell BKgg.out 0).trans rfl; have zgg1 : w3.cell? ⟨gg, 1, none⟩ = some (.int .i64 g1) := (blk_cell BKgg.out 1).trans rfl; skip))
  apply share
  case h =>
    intro hG
    go_region_held3 (fun w' => w'.cell? ⟨gg, 0, none⟩ = some (.int .i64 g0) ∧ w'.cell? ⟨gg, 1, none⟩ = some (.int .i64 g1))
      (((try dsimp only); (first | assumption | exact ⟨zgg0, zgg1⟩ | exact keep2 (below_alloc (Below.refl _ _) _) (by assumption))))
      ((first | (go_at_call 174; refine (boxes_none _).mono ?_; rintro e w9 ⟨rfl, rfl⟩)))
    all_goals
      have b3 : Below w3.heap.size w3 (((w3.alloc (.cells #[.int .i64 g0, .int .i64 g1] 27)).alloc (.cells #[.slice A1 b.length c1, .slice (some ⟨w3.heap.size, 0, none⟩) 1 1] 38)).drew) := below_drew (below_alloc (below_alloc (Below.refl _ _) _) _)
      have kO : (((w3.alloc (.cells #[.int .i64 g0, .int .i64 g1] 27)).alloc (.cells #[.slice A1 b.length c1, .slice (some ⟨w3.heap.size, 0, none⟩) 1 1] 38)).drew).heap[w3.heap.size + 1]? = some (.cells #[.slice A1 b.length c1, .slice (some ⟨w3.heap.size, 0, none⟩) 1 1] 38 (0, 0)) := blk_drew (by have h := blk_new (w3.alloc (.cells #[.int .i64 g0, .int .i64 g1] 27)) (.cells #[.slice A1 b.length c1, .slice (some ⟨w3.heap.size, 0, none⟩) 1 1] 38); rwa [World.size_alloc] at h)
      have hC1 : Kd.C k27 (((w3.alloc (.cells #[.int .i64 g0, .int .i64 g1] 27)).alloc (.cells #[.slice A1 b.length c1, .slice (some ⟨w3.heap.size, 0, none⟩) 1 1] 38)).drew) (some ⟨w3.heap.size, 0, none⟩) 1 [⟨g0, g1⟩] := Kd.C_drew (Kd.C_alloc (C_new27 w3 g0 g1) _)
      have n0_ := Aside0.mk (HB.out.trans (b3.mono HB.out.size))
      have n1_ := Aside0.mk (blk_below BKgs.out b3)
      have n2_ := Aside0.mk (blk_below BKgg.out b3)
      obtain ⟨wx, hwx⟩ : ∃ wx, ((w3.alloc (.cells #[.int .i64 g0, .int .i64 g1] 27)).alloc (.cells #[.slice A1 b.length c1, .slice (some ⟨w3.heap.size, 0, none⟩) 1 1] 38)).drew = wx := ⟨_, rfl⟩
      rw [hwx] at kO hC1 n0_ n1_ n2_ ⊢
      obtain ⟨go, hgo⟩ : ∃ go, w3.heap.size + 1 = go := ⟨_, rfl⟩
      obtain ⟨gi, hgi⟩ : ∃ gi, w3.heap.size = gi := ⟨_, rfl⟩
      rw [hgo] at kO ⊢
      rw [hgi] at kO hC1 ⊢
      have kN0 := n0_.out
      have kN1 := n1_.out
      have kN2 := n2_.out
      clear hwx hgo hgi b3 n0_ n1_ n2_
      revert kO hC1 kN0 kN1 kN2
      revert gi
      revert go
      revert wx
      exact hG.out
  case hg =>
    clear HB BKgs BKgg zgg0 zgg1
    intro wx go gi hC1 kO n0_ n1_ n2_
    have KO := Aside0.mk kO
    have HC1 := Aside0.mk hC1
    have HB := Aside0.mk n0_
    have BKgs := Aside0.mk n1_
    have BKgg := Aside0.mk n2_
    clear kO hC1 n0_ n1_ n2_
    try go_wp2
    go_loopw [29] (fun v29 wr => ∃ i : Nat, v29 = .int .i64 i ∧ Aside0 (i ≤ 2 ∧ (1 ≤ i → boxB b = true) ∧ (2 ≤ i → okS g0 g1 = true)) ∧ Aside0 (Below wx.heap.size wx wr)) (fun v29 _ => 2 - (intOf v29).toNat)
    case atStart => exact ⟨0, rfl, ⟨by omega, by omega, by omega⟩, ⟨Below.refl _ _⟩⟩
    case round =>
      obtain ⟨i, rfl, HA, HI⟩ := hrel
      have z0 := (blk_cell (blk_below KO.out HI.out) 0).trans rfl
      have z1 := (blk_cell (blk_below KO.out HI.out) 1).trans rfl
      by_cases hi : i < 2
      · rcases (show i = 0 ∨ i = 1 by omega) with rfl | rfl
        · rw [show ((0 : Nat) : Int) = 0 from rfl]
          go_wp2_with (go_at_call 26; refine (spans_Check.calls A1 c1 b _ _ (Kd.C_below HR.out (HB.out.trans (HI.out.mono HB.out.size))) hc HK.out).mono ?_; rintro e w9 ⟨rfl, hb⟩; have HB9 := Aside0.mk (HI.out.trans (hb.mono HI.out.size)); clear hb)
          exact ⟨⟨1, rfl, ⟨by omega, fun _ => HX.out, by omega⟩, HB9⟩, by decide⟩
        · rw [show ((1 : Nat) : Int) = 1 from rfl]
          go_wp2_with (go_at_call 26; refine (spans_Check.calls _ 1 [⟨g0, g1⟩] _ _ (Kd.C_below HC1.out HI.out) (Nat.le_refl _) HK2.out).mono ?_; rintro e w9 ⟨rfl, hb⟩; have HB9 := Aside0.mk (HI.out.trans (hb.mono HI.out.size)); clear hb)
          exact ⟨⟨2, rfl, ⟨by omega, fun _ => HX.out, fun _ => HX2.out⟩, HB9⟩, by decide⟩
      · obtain rfl : i = 2 := by have := HA.out.1; omega
        have hbw := HB.out.trans (HI.out.mono HB.out.size)
        have n0_ := Aside0.mk hbw
        have n1_ := Aside0.mk (blk_below BKgs.out HI.out)
        have n2_ := Aside0.mk (blk_below BKgg.out HI.out)
        clear HB BKgs BKgg hbw
        have HB := n0_
        have BKgs := n1_
        have BKgg := n2_
        clear n0_ n1_ n2_ HI KO HC1 z0 z1 hi HA
        have zgg0 : wr.cell? ⟨gg, 0, none⟩ = some (.int .i64 g0) := (blk_cell BKgg.out 0).trans rfl
        have zgg1 : wr.cell? ⟨gg, 1, none⟩ = some (.int .i64 g1) := (blk_cell BKgg.out 1).trans rfl
        have hlen : b.length = 2 := HLen.out
        obtain ⟨ad, e0, zp0, zp1⟩ := at_T27 (Kd.C_below HR.out HB.out) 0 (by omega) (by omega)
        obtain ⟨ad2, e1, zq0, zq1⟩ := at_T27 (Kd.C_below HR.out HB.out) 1 (by omega) (by omega)
        rw [e0] at e1
        injection e1 with e1
        subst e1
        subst e0
        rw [show Int.toNat 0 * 2 = 0 from rfl] at zp0 zp1
        rw [show Int.toNat 1 * 2 = 2 from rfl] at zq0 zq1
        rw [show rd_T27 b 0 = p from HPQ.out.1] at zp0 zp1
        rw [show rd_T27 b 1 = q from HPQ.out.2] at zq0 zq1
        rw [show ad.add 0 = ad from rfl] at zp0 zp1
        rw [show ad.add 2 = ⟨ad.block, ad.off + 2, none⟩ from rfl] at zq0 zq1
        have hlt0 : (0 : Int) < (b.length : Int) := by omega
        have hlt1 : (1 : Int) < (b.length : Int) := by omega
        have hn0 : 0 < b.length := by omega
        have hn1 : 1 < b.length := by omega
        have hne : ((b.length : Int) != 2) = false := by simp; omega
        clear hlen
        go_wp2
        refine start_ (n := 46) (S := fun w' => w'.cell? ⟨gg, 0, none⟩ = some (.int .i64 g0) ∧ w'.cell? ⟨gg, 1, none⟩ = some (.int .i64 g1) ∧ w'.cell? ad = some (.int .i64 p.f0) ∧ w'.cell? ⟨ad.block, ad.off + 1, none⟩ = some (.int .i64 p.f1) ∧ w'.cell? ⟨ad.block, ad.off + 2, none⟩ = some (.int .i64 q.f0) ∧ w'.cell? ⟨ad.block, ad.off + 3, none⟩ = some (.int .i64 q.f1)) (ds := []) (mk 46 0) (by kernel_rfl) rfl (by kernel_rfl) ⟨zgg0, zgg1, zp0, zp1, zq0, zq1⟩ (fun hHeld => ?_)
        refine with_tabW newSet.tab11 newSet.bits11 (fun HT_ HW_ => ?_)
        have hb0 := below_drew1 HB.out
        have hk0 := blk_drew BKgs.out
        have hk1 := blk_drew BKgg.out
        generalize wr.drew = wz at hb0 hk0 hk1 hHeld ⊢
        clear HB BKgs BKgg zgg0 zgg1 zp0 zp1 zq0 zq1
        have HB := Aside0.mk hb0
        have BKgs := Aside0.mk hk0
        have BKgg := Aside0.mk hk1
        clear hb0 hk0 hk1
        refine pu_ 0 39 (mk 46 1) HT_ ?_
        refine pu_ 1 40 (mk 46 3) HT_ ?_
        refine pu_ 2 41 (mk 46 7) HT_ ?_
        refine pu_ 3 42 (mk 46 15) HT_ ?_
        refine pu_ 4 43 (mk 46 31) HT_ ?_
        refine pu_ 5 44 (mk 46 63) HT_ ?_
        refine pu_ 6 45 (mk 46 127) HT_ ?_
        refine tk_ 7 46 (mk 46 255) HT_ HW_ hHeld ?_
        refine pu_ 8 47 (mk 46 511) HT_ ?_
        refine pu_ 9 48 (mk 46 1023) HT_ ?_
        refine pu_ 10 49 (mk 46 2047) HT_ ?_
        refine tk_ 11 50 (mk 46 4095) HT_ HW_ hHeld ?_
        refine pu_ 12 51 (mk 46 8191) HT_ ?_
        refine one_ (i := 13) (N := some 52) (mk 46 16383) rfl rfl (one_of HT_.out (by kernel_rfl)) (by decide) (fun K hK => ?_)
        refine goes_ Try.func129 (by kernel_rfl) rfl #[.agg #[.int .i64 p.f0, .int .i64 q.f0]] (by rfl) rfl rfl (by (try simp only [List.map_toArray, List.map_cons, List.map_nil]); first | done | rfl | (simp only [List.length_drop, List.length_take]; rfl)) ?_
        with_reducible refine (started_calls p.f0 q.f0 _).mono ?_
        rw [H1.out]; rintro e wn0 ⟨rfl, hb⟩
        refine ⟨_, rfl, ?_⟩
        have n0_ := Aside0.mk (below_step HB.out hb)
        have n1_ := Aside0.mk (blk_below BKgs.out hb)
        have n2_ := Aside0.mk (blk_below BKgg.out hb)
        clear HB BKgs BKgg
        have HB := n0_
        have BKgs := n1_
        have BKgg := n2_
        clear n0_ n1_ n2_
        refine hK.out _ _ ⟨(hb.cell (World.block_lt_of_cell? _ _ hHeld.1)).trans hHeld.1, (hb.cell (World.block_lt_of_cell? _ _ hHeld.2.1)).trans hHeld.2.1, (hb.cell (World.block_lt_of_cell? _ _ hHeld.2.2.1)).trans hHeld.2.2.1, (hb.cell (World.block_lt_of_cell? _ _ hHeld.2.2.2.1)).trans hHeld.2.2.2.1, (hb.cell (World.block_lt_of_cell? _ _ hHeld.2.2.2.2.1)).trans hHeld.2.2.2.2.1, (hb.cell (World.block_lt_of_cell? _ _ hHeld.2.2.2.2.2)).trans hHeld.2.2.2.2.2⟩ (fun hHeld => ?_)
        clear hK K
        refine nm_ ?_
        clear hb
        refine pu_ 14 53 (mk 46 32767) HT_ ?_
        refine pu_ 15 54 (mk 46 65535) HT_ ?_
        refine pu_ 16 55 (mk 46 131071) HT_ ?_
        refine pu_ 17 56 (mk 46 262143) HT_ ?_
        refine pu_ 18 57 (mk 46 524287) HT_ ?_
        refine pu_ 19 58 (mk 46 1048575) HT_ ?_
        refine tk_ 20 59 (mk 46 2097151) HT_ HW_ hHeld ?_
        refine pu_ 21 60 (mk 46 4194303) HT_ ?_
        refine pu_ 22 61 (mk 46 8388607) HT_ ?_
        refine pu_ 23 62 (mk 46 16777215) HT_ ?_
        refine tk_ 24 63 (mk 46 33554431) HT_ HW_ hHeld ?_
        refine pu_ 25 64 (mk 46 67108863) HT_ ?_
        refine one_ (i := 26) (N := some 65) (mk 46 134217727) rfl rfl (one_of HT_.out (by kernel_rfl)) (by decide) (fun K hK => ?_)
        refine goes_ Try.func129 (by kernel_rfl) rfl #[.agg #[.int .i64 p.f1, .int .i64 q.f1]] (by rfl) rfl rfl (by (try simp only [List.map_toArray, List.map_cons, List.map_nil]); first | done | rfl | (simp only [List.length_drop, List.length_take]; rfl)) ?_
        with_reducible refine (started_calls p.f1 q.f1 _).mono ?_
        rw [H2.out]; rintro e wn1 ⟨rfl, hb⟩
        refine ⟨_, rfl, ?_⟩
        have n0_ := Aside0.mk (below_step HB.out hb)
        have n1_ := Aside0.mk (blk_below BKgs.out hb)
        have n2_ := Aside0.mk (blk_below BKgg.out hb)
        clear HB BKgs BKgg
        have HB := n0_
        have BKgs := n1_
        have BKgg := n2_
        clear n0_ n1_ n2_
        refine hK.out _ _ ⟨(hb.cell (World.block_lt_of_cell? _ _ hHeld.1)).trans hHeld.1, (hb.cell (World.block_lt_of_cell? _ _ hHeld.2.1)).trans hHeld.2.1, (hb.cell (World.block_lt_of_cell? _ _ hHeld.2.2.1)).trans hHeld.2.2.1, (hb.cell (World.block_lt_of_cell? _ _ hHeld.2.2.2.1)).trans hHeld.2.2.2.1, (hb.cell (World.block_lt_of_cell? _ _ hHeld.2.2.2.2.1)).trans hHeld.2.2.2.2.1, (hb.cell (World.block_lt_of_cell? _ _ hHeld.2.2.2.2.2)).trans hHeld.2.2.2.2.2⟩ (fun hHeld => ?_)
        clear hK K
        refine nm_ ?_
        clear hb
        refine pu_ 27 66 (mk 46 268435455) HT_ ?_
        refine pu_ 28 67 (mk 46 536870911) HT_ ?_
        refine pu_ 29 68 (mk 46 1073741823) HT_ ?_
        refine pu_ 30 69 (mk 46 2147483647) HT_ ?_
        refine tk_ 31 70 (mk 46 4294967295) HT_ HW_ hHeld ?_
        refine one_ (i := 32) (N := some 71) (mk 46 8589934591) rfl rfl (one_of HT_.out (by kernel_rfl)) (by decide) (fun K hK => ?_)
        refine goes_ Try.func115 (by kernel_rfl) rfl #[.int .i64 g0, .int .i64 (-100), .int .i64 100] (by rfl) rfl rfl (by (try simp only [List.map_toArray, List.map_cons, List.map_nil]); first | done | rfl | (simp only [List.length_drop, List.length_take]; rfl)) ?_
        with_reducible refine (within_c g0 (-100) 100 _ H3.out _).mono ?_
        rintro e wn2 ⟨rfl, hb⟩
        refine ⟨_, rfl, ?_⟩
        have n0_ := Aside0.mk (below_step HB.out hb)
        have n1_ := Aside0.mk (blk_below BKgs.out hb)
        have n2_ := Aside0.mk (blk_below BKgg.out hb)
        clear HB BKgs BKgg
        have HB := n0_
        have BKgs := n1_
        have BKgg := n2_
        clear n0_ n1_ n2_
        refine hK.out _ _ ⟨(hb.cell (World.block_lt_of_cell? _ _ hHeld.1)).trans hHeld.1, (hb.cell (World.block_lt_of_cell? _ _ hHeld.2.1)).trans hHeld.2.1, (hb.cell (World.block_lt_of_cell? _ _ hHeld.2.2.1)).trans hHeld.2.2.1, (hb.cell (World.block_lt_of_cell? _ _ hHeld.2.2.2.1)).trans hHeld.2.2.2.1, (hb.cell (World.block_lt_of_cell? _ _ hHeld.2.2.2.2.1)).trans hHeld.2.2.2.2.1, (hb.cell (World.block_lt_of_cell? _ _ hHeld.2.2.2.2.2)).trans hHeld.2.2.2.2.2⟩ (fun hHeld => ?_)
        clear hK K
        refine nm_ ?_
        clear hb
        refine pu_ 33 72 (mk 46 17179869183) HT_ ?_
        refine pu_ 34 73 (mk 46 34359738367) HT_ ?_
        refine pu_ 35 74 (mk 46 68719476735) HT_ ?_
        refine pu_ 36 75 (mk 46 137438953471) HT_ ?_
        refine tk_ 37 76 (mk 46 274877906943) HT_ HW_ hHeld ?_
        refine one_ (i := 38) (N := some 77) (mk 46 549755813887) rfl rfl (one_of HT_.out (by kernel_rfl)) (by decide) (fun K hK => ?_)
        refine goes_ Try.func115 (by kernel_rfl) rfl #[.int .i64 g1, .int .i64 (-100), .int .i64 100] (by rfl) rfl rfl (by (try simp only [List.map_toArray, List.map_cons, List.map_nil]); first | done | rfl | (simp only [List.length_drop, List.length_take]; rfl)) ?_
        with_reducible refine (within_c g1 (-100) 100 _ H4.out _).mono ?_
        rintro e wn3 ⟨rfl, hb⟩
        refine ⟨_, rfl, ?_⟩
        have n0_ := Aside0.mk (below_step HB.out hb)
        have n1_ := Aside0.mk (blk_below BKgs.out hb)
        have n2_ := Aside0.mk (blk_below BKgg.out hb)
        clear HB BKgs BKgg
        have HB := n0_
        have BKgs := n1_
        have BKgg := n2_
        clear n0_ n1_ n2_
        refine hK.out _ _ ⟨(hb.cell (World.block_lt_of_cell? _ _ hHeld.1)).trans hHeld.1, (hb.cell (World.block_lt_of_cell? _ _ hHeld.2.1)).trans hHeld.2.1, (hb.cell (World.block_lt_of_cell? _ _ hHeld.2.2.1)).trans hHeld.2.2.1, (hb.cell (World.block_lt_of_cell? _ _ hHeld.2.2.2.1)).trans hHeld.2.2.2.1, (hb.cell (World.block_lt_of_cell? _ _ hHeld.2.2.2.2.1)).trans hHeld.2.2.2.2.1, (hb.cell (World.block_lt_of_cell? _ _ hHeld.2.2.2.2.2)).trans hHeld.2.2.2.2.2⟩ (fun hHeld => ?_)
        clear hK K
        refine nm_ ?_
        clear hb
        refine pu_ 39 78 (mk 46 1099511627775) HT_ ?_
        refine pu_ 40 79 (mk 46 2199023255551) HT_ ?_
        refine pu_ 41 80 (mk 46 4398046511103) HT_ ?_
        refine no_ 42 81 (mk 46 8796093022207) HT_ ?_
        refine no_ 43 82 (mk 46 17592186044415) HT_ ?_
        refine no_ 44 83 (mk 46 35184372088831) HT_ ?_
        refine pu_ 45 84 (mk 46 70368744177663) HT_ ?_
        refine done_ (done_of HT_.out (by kernel_rfl)) ?_
        go_wp2
        refine bodyPost_ret (results_list (rs := [.tmp 10, .tmp 11]) rfl (by simp) (.tmp (.tmp .nil))) rfl ?_
        exact ⟨rfl, HB.out⟩
set_option maxRecDepth 100000 in
set_option maxHeartbeats 4000000 in
theorem newSet_1_5 (n m D : Int) (A1 : Option Addr) (c1 : Nat) (b : List S27) (g0 g1 N : Int) (w : World) (hs : slB n m D = true) (hr : Kd.C k27 w A1 b.length b) (hc : b.length ≤ c1) (hb1 : boxB b = true) (hb2 : okS g0 g1 = true) (hl : b.length = 2) (ha : stB (b.getD 0 z27).f0 (b.getD 1 z27).f0 = true ∧ stB (b.getD 0 z27).f1 (b.getD 1 z27).f1 = true ∧ guB g0 = true ∧ guB g1 = true ∧ nB N = false) :
    Calls Try.prog 142 #[.agg #[.int .i64 n, .int .i64 m, .int .i64 D], .slice A1 b.length c1, .agg #[.int .i64 g0, .int .i64 g1], .int .i64 N, .slice none 0 0] w fun e w' => e = .returned (.tuple #[.pointer none, .int .i64 1]) ∧ Below w.heap.size w w' := by
  have HS := Aside0.mk hs
  have HR := Aside0.mk hr
  have HX := Aside0.mk hb1
  have HX2 := Aside0.mk hb2
  have ck := check_total b
  rw [hb1] at ck
  have HK := Aside0.mk ck
  have ck2 := check_total [⟨g0, g1⟩]
  rw [box1, hb2] at ck2
  have HK2 := Aside0.mk ck2
  clear hs hr hb1 hb2 ck ck2
  have HLen := Aside0.mk hl
  obtain ⟨p, hp⟩ : ∃ p, b.getD 0 z27 = p := ⟨_, rfl⟩
  obtain ⟨q, hq⟩ : ∃ q, b.getD 1 z27 = q := ⟨_, rfl⟩
  rw [hp, hq] at ha
  have HPQ : Aside0 (b.getD 0 z27 = p ∧ b.getD 1 z27 = q) := ⟨⟨hp, hq⟩⟩
  clear hp hq
  have H1 : Aside0 (stB p.f0 q.f0 = true) := ⟨ha.1⟩
  have H2 : Aside0 (stB p.f1 q.f1 = true) := ⟨ha.2.1⟩
  have H3 : Aside0 (sling_within.f g0 (-100) 100 = some true) := ⟨by rw [sw7]; exact congrArg some ha.2.2.1⟩
  have H4 : Aside0 (sling_within.f g1 (-100) 100 = some true) := ⟨by rw [sw7]; exact congrArg some ha.2.2.2.1⟩
  have H5 : Aside0 (sling_within.f N 0 16 = some false) := ⟨by rw [sw7]; exact congrArg some ha.2.2.2.2⟩
  clear ha hl
  have HB := Aside0.mk (Below.refl w.heap.size w)
  go_enter Try.func142, Try.ntmps142
  go_wp2_with (first | ((with_reducible refine gate_dst (N := 5) rfl ?_); refine box_event ?hg (N := 5) ?hd (cs := #[.int .i64 n, .int .i64 m, .int .i64 D]) (t := 105) ?hr ?_; (case hd => rfl); (case hg => rfl); (case hr => first | (go_simp; done) | (go_simp; rfl)); intro gs hg w1 hbox hb; have n0_ := Aside0.mk (below_step HB.out hb); have x0_ := Aside0.mk (hbox); have x1_ := Aside0.mk ((by rw [hg]; exact HB.out.size : w.heap.size ≤ gs)); clear HB; have HB := n0_; clear n0_; have BKgs := x0_; clear x0_; have GEgs := x1_; clear x1_; clear hb hbox hg; skip) | ((with_reducible refine gate_dst (N := 7) rfl ?_); refine box_event ?hg (N := 7) ?hd (cs := #[.int .i64 g0, .int .i64 g1]) (t := 27) ?hr ?_; (case hd => rfl); (case hg => rfl); (case hr => first | (go_simp; done) | (go_simp; rfl)); intro gg hg w2 hbox hb; have n0_ := Aside0.mk (below_step HB.out hb); have m0_ := Aside0.mk (blk_below BKgs.out hb); have x0_ := Aside0.mk (hbox); have x1_ := Aside0.mk ((by rw [hg]; exact HB.out.size : w.heap.size ≤ gg)); clear HB; have HB := n0_; clear n0_; clear BKgs; have BKgs := m0_; clear m0_; have BKgg := x0_; clear x0_; have GEgg := x1_; clear x1_; clear hb hbox hg; have zgs0 : w2.cell? ⟨gs, 0, none⟩ = some (.int .i64 n) := (blk_cell BKgs.out 0).trans rfl; have zgs1 : w2.cell? ⟨gs, 1, none⟩ = some (.int .i64 m) := (blk_cell BKgs.out 1).trans rfl; have zgs2 : w2.cell? ⟨gs, 2, none⟩ = some (.int .i64 D) := (blk_cell BKgs.out 2).trans rfl; skip) | (go_at_call 68; refine (chk_yes n m D HS.out _).mono ?_; rintro e w3 ⟨rfl, hb⟩; have n0_ := Aside0.mk (below_step HB.out hb); have m0_ := Aside0.mk (blk_below BKgs.out hb); have m1_ := Aside0.mk (blk_below BKgg.out hb); clear HB; have HB := n0_; clear n0_; clear BKgs; have BKgs := m0_; clear m0_; clear BKgg; have BKgg := m1_; clear m1_; clear hb; clear zgs0; clear zgs1; clear zgs2; have zgg0 : w3.cell? ⟨gg, 0, none⟩ = some (.int .i64 g0) := (blk_cell BKgg.out 0).trans rfl; have zgg1 : w3.cell? ⟨gg, 1, none⟩ = some (.int .i64 g1) := (blk_cell BKgg.out 1).trans rfl; skip))
  apply share
  case h =>
    intro hG
    go_region_held3 (fun w' => w'.cell? ⟨gg, 0, none⟩ = some (.int .i64 g0) ∧ w'.cell? ⟨gg, 1, none⟩ = some (.int .i64 g1))
      (((try dsimp only); (first | assumption | exact ⟨zgg0, zgg1⟩ | exact keep2 (below_alloc (Below.refl _ _) _) (by assumption))))
      ((first | (go_at_call 174; refine (boxes_none _).mono ?_; rintro e w9 ⟨rfl, rfl⟩)))
    all_goals
      have b3 : Below w3.heap.size w3 (((w3.alloc (.cells #[.int .i64 g0, .int .i64 g1] 27)).alloc (.cells #[.slice A1 b.length c1, .slice (some ⟨w3.heap.size, 0, none⟩) 1 1] 38)).drew) := below_drew (below_alloc (below_alloc (Below.refl _ _) _) _)
      have kO : (((w3.alloc (.cells #[.int .i64 g0, .int .i64 g1] 27)).alloc (.cells #[.slice A1 b.length c1, .slice (some ⟨w3.heap.size, 0, none⟩) 1 1] 38)).drew).heap[w3.heap.size + 1]? = some (.cells #[.slice A1 b.length c1, .slice (some ⟨w3.heap.size, 0, none⟩) 1 1] 38 (0, 0)) := blk_drew (by have h := blk_new (w3.alloc (.cells #[.int .i64 g0, .int .i64 g1] 27)) (.cells #[.slice A1 b.length c1, .slice (some ⟨w3.heap.size, 0, none⟩) 1 1] 38); rwa [World.size_alloc] at h)
      have hC1 : Kd.C k27 (((w3.alloc (.cells #[.int .i64 g0, .int .i64 g1] 27)).alloc (.cells #[.slice A1 b.length c1, .slice (some ⟨w3.heap.size, 0, none⟩) 1 1] 38)).drew) (some ⟨w3.heap.size, 0, none⟩) 1 [⟨g0, g1⟩] := Kd.C_drew (Kd.C_alloc (C_new27 w3 g0 g1) _)
      have n0_ := Aside0.mk (HB.out.trans (b3.mono HB.out.size))
      have n1_ := Aside0.mk (blk_below BKgs.out b3)
      have n2_ := Aside0.mk (blk_below BKgg.out b3)
      obtain ⟨wx, hwx⟩ : ∃ wx, ((w3.alloc (.cells #[.int .i64 g0, .int .i64 g1] 27)).alloc (.cells #[.slice A1 b.length c1, .slice (some ⟨w3.heap.size, 0, none⟩) 1 1] 38)).drew = wx := ⟨_, rfl⟩
      rw [hwx] at kO hC1 n0_ n1_ n2_ ⊢
      obtain ⟨go, hgo⟩ : ∃ go, w3.heap.size + 1 = go := ⟨_, rfl⟩
      obtain ⟨gi, hgi⟩ : ∃ gi, w3.heap.size = gi := ⟨_, rfl⟩
      rw [hgo] at kO ⊢
      rw [hgi] at kO hC1 ⊢
      have kN0 := n0_.out
      have kN1 := n1_.out
      have kN2 := n2_.out
      clear hwx hgo hgi b3 n0_ n1_ n2_
      revert kO hC1 kN0 kN1 kN2
      revert gi
      revert go
      revert wx
      exact hG.out
  case hg =>
    clear HB BKgs BKgg zgg0 zgg1
    intro wx go gi hC1 kO n0_ n1_ n2_
    have KO := Aside0.mk kO
    have HC1 := Aside0.mk hC1
    have HB := Aside0.mk n0_
    have BKgs := Aside0.mk n1_
    have BKgg := Aside0.mk n2_
    clear kO hC1 n0_ n1_ n2_
    try go_wp2
    go_loopw [29] (fun v29 wr => ∃ i : Nat, v29 = .int .i64 i ∧ Aside0 (i ≤ 2 ∧ (1 ≤ i → boxB b = true) ∧ (2 ≤ i → okS g0 g1 = true)) ∧ Aside0 (Below wx.heap.size wx wr)) (fun v29 _ => 2 - (intOf v29).toNat)
    case atStart => exact ⟨0, rfl, ⟨by omega, by omega, by omega⟩, ⟨Below.refl _ _⟩⟩
    case round =>
      obtain ⟨i, rfl, HA, HI⟩ := hrel
      have z0 := (blk_cell (blk_below KO.out HI.out) 0).trans rfl
      have z1 := (blk_cell (blk_below KO.out HI.out) 1).trans rfl
      by_cases hi : i < 2
      · rcases (show i = 0 ∨ i = 1 by omega) with rfl | rfl
        · rw [show ((0 : Nat) : Int) = 0 from rfl]
          go_wp2_with (go_at_call 26; refine (spans_Check.calls A1 c1 b _ _ (Kd.C_below HR.out (HB.out.trans (HI.out.mono HB.out.size))) hc HK.out).mono ?_; rintro e w9 ⟨rfl, hb⟩; have HB9 := Aside0.mk (HI.out.trans (hb.mono HI.out.size)); clear hb)
          exact ⟨⟨1, rfl, ⟨by omega, fun _ => HX.out, by omega⟩, HB9⟩, by decide⟩
        · rw [show ((1 : Nat) : Int) = 1 from rfl]
          go_wp2_with (go_at_call 26; refine (spans_Check.calls _ 1 [⟨g0, g1⟩] _ _ (Kd.C_below HC1.out HI.out) (Nat.le_refl _) HK2.out).mono ?_; rintro e w9 ⟨rfl, hb⟩; have HB9 := Aside0.mk (HI.out.trans (hb.mono HI.out.size)); clear hb)
          exact ⟨⟨2, rfl, ⟨by omega, fun _ => HX.out, fun _ => HX2.out⟩, HB9⟩, by decide⟩
      · obtain rfl : i = 2 := by have := HA.out.1; omega
        have hbw := HB.out.trans (HI.out.mono HB.out.size)
        have n0_ := Aside0.mk hbw
        have n1_ := Aside0.mk (blk_below BKgs.out HI.out)
        have n2_ := Aside0.mk (blk_below BKgg.out HI.out)
        clear HB BKgs BKgg hbw
        have HB := n0_
        have BKgs := n1_
        have BKgg := n2_
        clear n0_ n1_ n2_ HI KO HC1 z0 z1 hi HA
        have zgg0 : wr.cell? ⟨gg, 0, none⟩ = some (.int .i64 g0) := (blk_cell BKgg.out 0).trans rfl
        have zgg1 : wr.cell? ⟨gg, 1, none⟩ = some (.int .i64 g1) := (blk_cell BKgg.out 1).trans rfl
        have hlen : b.length = 2 := HLen.out
        obtain ⟨ad, e0, zp0, zp1⟩ := at_T27 (Kd.C_below HR.out HB.out) 0 (by omega) (by omega)
        obtain ⟨ad2, e1, zq0, zq1⟩ := at_T27 (Kd.C_below HR.out HB.out) 1 (by omega) (by omega)
        rw [e0] at e1
        injection e1 with e1
        subst e1
        subst e0
        rw [show Int.toNat 0 * 2 = 0 from rfl] at zp0 zp1
        rw [show Int.toNat 1 * 2 = 2 from rfl] at zq0 zq1
        rw [show rd_T27 b 0 = p from HPQ.out.1] at zp0 zp1
        rw [show rd_T27 b 1 = q from HPQ.out.2] at zq0 zq1
        rw [show ad.add 0 = ad from rfl] at zp0 zp1
        rw [show ad.add 2 = ⟨ad.block, ad.off + 2, none⟩ from rfl] at zq0 zq1
        have hlt0 : (0 : Int) < (b.length : Int) := by omega
        have hlt1 : (1 : Int) < (b.length : Int) := by omega
        have hn0 : 0 < b.length := by omega
        have hn1 : 1 < b.length := by omega
        have hne : ((b.length : Int) != 2) = false := by simp; omega
        clear hlen
        go_wp2
        refine start_ (n := 46) (S := fun w' => w'.cell? ⟨gg, 0, none⟩ = some (.int .i64 g0) ∧ w'.cell? ⟨gg, 1, none⟩ = some (.int .i64 g1) ∧ w'.cell? ad = some (.int .i64 p.f0) ∧ w'.cell? ⟨ad.block, ad.off + 1, none⟩ = some (.int .i64 p.f1) ∧ w'.cell? ⟨ad.block, ad.off + 2, none⟩ = some (.int .i64 q.f0) ∧ w'.cell? ⟨ad.block, ad.off + 3, none⟩ = some (.int .i64 q.f1)) (ds := []) (mk 46 0) (by kernel_rfl) rfl (by kernel_rfl) ⟨zgg0, zgg1, zp0, zp1, zq0, zq1⟩ (fun hHeld => ?_)
        refine with_tabW newSet.tab11 newSet.bits11 (fun HT_ HW_ => ?_)
        have hb0 := below_drew1 HB.out
        have hk0 := blk_drew BKgs.out
        have hk1 := blk_drew BKgg.out
        generalize wr.drew = wz at hb0 hk0 hk1 hHeld ⊢
        clear HB BKgs BKgg zgg0 zgg1 zp0 zp1 zq0 zq1
        have HB := Aside0.mk hb0
        have BKgs := Aside0.mk hk0
        have BKgg := Aside0.mk hk1
        clear hb0 hk0 hk1
        refine pu_ 0 39 (mk 46 1) HT_ ?_
        refine pu_ 1 40 (mk 46 3) HT_ ?_
        refine pu_ 2 41 (mk 46 7) HT_ ?_
        refine pu_ 3 42 (mk 46 15) HT_ ?_
        refine pu_ 4 43 (mk 46 31) HT_ ?_
        refine pu_ 5 44 (mk 46 63) HT_ ?_
        refine pu_ 6 45 (mk 46 127) HT_ ?_
        refine tk_ 7 46 (mk 46 255) HT_ HW_ hHeld ?_
        refine pu_ 8 47 (mk 46 511) HT_ ?_
        refine pu_ 9 48 (mk 46 1023) HT_ ?_
        refine pu_ 10 49 (mk 46 2047) HT_ ?_
        refine tk_ 11 50 (mk 46 4095) HT_ HW_ hHeld ?_
        refine pu_ 12 51 (mk 46 8191) HT_ ?_
        refine one_ (i := 13) (N := some 52) (mk 46 16383) rfl rfl (one_of HT_.out (by kernel_rfl)) (by decide) (fun K hK => ?_)
        refine goes_ Try.func129 (by kernel_rfl) rfl #[.agg #[.int .i64 p.f0, .int .i64 q.f0]] (by rfl) rfl rfl (by (try simp only [List.map_toArray, List.map_cons, List.map_nil]); first | done | rfl | (simp only [List.length_drop, List.length_take]; rfl)) ?_
        with_reducible refine (started_calls p.f0 q.f0 _).mono ?_
        rw [H1.out]; rintro e wn0 ⟨rfl, hb⟩
        refine ⟨_, rfl, ?_⟩
        have n0_ := Aside0.mk (below_step HB.out hb)
        have n1_ := Aside0.mk (blk_below BKgs.out hb)
        have n2_ := Aside0.mk (blk_below BKgg.out hb)
        clear HB BKgs BKgg
        have HB := n0_
        have BKgs := n1_
        have BKgg := n2_
        clear n0_ n1_ n2_
        refine hK.out _ _ ⟨(hb.cell (World.block_lt_of_cell? _ _ hHeld.1)).trans hHeld.1, (hb.cell (World.block_lt_of_cell? _ _ hHeld.2.1)).trans hHeld.2.1, (hb.cell (World.block_lt_of_cell? _ _ hHeld.2.2.1)).trans hHeld.2.2.1, (hb.cell (World.block_lt_of_cell? _ _ hHeld.2.2.2.1)).trans hHeld.2.2.2.1, (hb.cell (World.block_lt_of_cell? _ _ hHeld.2.2.2.2.1)).trans hHeld.2.2.2.2.1, (hb.cell (World.block_lt_of_cell? _ _ hHeld.2.2.2.2.2)).trans hHeld.2.2.2.2.2⟩ (fun hHeld => ?_)
        clear hK K
        refine nm_ ?_
        clear hb
        refine pu_ 14 53 (mk 46 32767) HT_ ?_
        refine pu_ 15 54 (mk 46 65535) HT_ ?_
        refine pu_ 16 55 (mk 46 131071) HT_ ?_
        refine pu_ 17 56 (mk 46 262143) HT_ ?_
        refine pu_ 18 57 (mk 46 524287) HT_ ?_
        refine pu_ 19 58 (mk 46 1048575) HT_ ?_
        refine tk_ 20 59 (mk 46 2097151) HT_ HW_ hHeld ?_
        refine pu_ 21 60 (mk 46 4194303) HT_ ?_
        refine pu_ 22 61 (mk 46 8388607) HT_ ?_
        refine pu_ 23 62 (mk 46 16777215) HT_ ?_
        refine tk_ 24 63 (mk 46 33554431) HT_ HW_ hHeld ?_
        refine pu_ 25 64 (mk 46 67108863) HT_ ?_
        refine one_ (i := 26) (N := some 65) (mk 46 134217727) rfl rfl (one_of HT_.out (by kernel_rfl)) (by decide) (fun K hK => ?_)
        refine goes_ Try.func129 (by kernel_rfl) rfl #[.agg #[.int .i64 p.f1, .int .i64 q.f1]] (by rfl) rfl rfl (by (try simp only [List.map_toArray, List.map_cons, List.map_nil]); first | done | rfl | (simp only [List.length_drop, List.length_take]; rfl)) ?_
        with_reducible refine (started_calls p.f1 q.f1 _).mono ?_
        rw [H2.out]; rintro e wn1 ⟨rfl, hb⟩
        refine ⟨_, rfl, ?_⟩
        have n0_ := Aside0.mk (below_step HB.out hb)
        have n1_ := Aside0.mk (blk_below BKgs.out hb)
        have n2_ := Aside0.mk (blk_below BKgg.out hb)
        clear HB BKgs BKgg
        have HB := n0_
        have BKgs := n1_
        have BKgg := n2_
        clear n0_ n1_ n2_
        refine hK.out _ _ ⟨(hb.cell (World.block_lt_of_cell? _ _ hHeld.1)).trans hHeld.1, (hb.cell (World.block_lt_of_cell? _ _ hHeld.2.1)).trans hHeld.2.1, (hb.cell (World.block_lt_of_cell? _ _ hHeld.2.2.1)).trans hHeld.2.2.1, (hb.cell (World.block_lt_of_cell? _ _ hHeld.2.2.2.1)).trans hHeld.2.2.2.1, (hb.cell (World.block_lt_of_cell? _ _ hHeld.2.2.2.2.1)).trans hHeld.2.2.2.2.1, (hb.cell (World.block_lt_of_cell? _ _ hHeld.2.2.2.2.2)).trans hHeld.2.2.2.2.2⟩ (fun hHeld => ?_)
        clear hK K
        refine nm_ ?_
        clear hb
        refine pu_ 27 66 (mk 46 268435455) HT_ ?_
        refine pu_ 28 67 (mk 46 536870911) HT_ ?_
        refine pu_ 29 68 (mk 46 1073741823) HT_ ?_
        refine pu_ 30 69 (mk 46 2147483647) HT_ ?_
        refine tk_ 31 70 (mk 46 4294967295) HT_ HW_ hHeld ?_
        refine one_ (i := 32) (N := some 71) (mk 46 8589934591) rfl rfl (one_of HT_.out (by kernel_rfl)) (by decide) (fun K hK => ?_)
        refine goes_ Try.func115 (by kernel_rfl) rfl #[.int .i64 g0, .int .i64 (-100), .int .i64 100] (by rfl) rfl rfl (by (try simp only [List.map_toArray, List.map_cons, List.map_nil]); first | done | rfl | (simp only [List.length_drop, List.length_take]; rfl)) ?_
        with_reducible refine (within_c g0 (-100) 100 _ H3.out _).mono ?_
        rintro e wn2 ⟨rfl, hb⟩
        refine ⟨_, rfl, ?_⟩
        have n0_ := Aside0.mk (below_step HB.out hb)
        have n1_ := Aside0.mk (blk_below BKgs.out hb)
        have n2_ := Aside0.mk (blk_below BKgg.out hb)
        clear HB BKgs BKgg
        have HB := n0_
        have BKgs := n1_
        have BKgg := n2_
        clear n0_ n1_ n2_
        refine hK.out _ _ ⟨(hb.cell (World.block_lt_of_cell? _ _ hHeld.1)).trans hHeld.1, (hb.cell (World.block_lt_of_cell? _ _ hHeld.2.1)).trans hHeld.2.1, (hb.cell (World.block_lt_of_cell? _ _ hHeld.2.2.1)).trans hHeld.2.2.1, (hb.cell (World.block_lt_of_cell? _ _ hHeld.2.2.2.1)).trans hHeld.2.2.2.1, (hb.cell (World.block_lt_of_cell? _ _ hHeld.2.2.2.2.1)).trans hHeld.2.2.2.2.1, (hb.cell (World.block_lt_of_cell? _ _ hHeld.2.2.2.2.2)).trans hHeld.2.2.2.2.2⟩ (fun hHeld => ?_)
        clear hK K
        refine nm_ ?_
        clear hb
        refine pu_ 33 72 (mk 46 17179869183) HT_ ?_
        refine pu_ 34 73 (mk 46 34359738367) HT_ ?_
        refine pu_ 35 74 (mk 46 68719476735) HT_ ?_
        refine pu_ 36 75 (mk 46 137438953471) HT_ ?_
        refine tk_ 37 76 (mk 46 274877906943) HT_ HW_ hHeld ?_
        refine one_ (i := 38) (N := some 77) (mk 46 549755813887) rfl rfl (one_of HT_.out (by kernel_rfl)) (by decide) (fun K hK => ?_)
        refine goes_ Try.func115 (by kernel_rfl) rfl #[.int .i64 g1, .int .i64 (-100), .int .i64 100] (by rfl) rfl rfl (by (try simp only [List.map_toArray, List.map_cons, List.map_nil]); first | done | rfl | (simp only [List.length_drop, List.length_take]; rfl)) ?_
        with_reducible refine (within_c g1 (-100) 100 _ H4.out _).mono ?_
        rintro e wn3 ⟨rfl, hb⟩
        refine ⟨_, rfl, ?_⟩
        have n0_ := Aside0.mk (below_step HB.out hb)
        have n1_ := Aside0.mk (blk_below BKgs.out hb)
        have n2_ := Aside0.mk (blk_below BKgg.out hb)
        clear HB BKgs BKgg
        have HB := n0_
        have BKgs := n1_
        have BKgg := n2_
        clear n0_ n1_ n2_
        refine hK.out _ _ ⟨(hb.cell (World.block_lt_of_cell? _ _ hHeld.1)).trans hHeld.1, (hb.cell (World.block_lt_of_cell? _ _ hHeld.2.1)).trans hHeld.2.1, (hb.cell (World.block_lt_of_cell? _ _ hHeld.2.2.1)).trans hHeld.2.2.1, (hb.cell (World.block_lt_of_cell? _ _ hHeld.2.2.2.1)).trans hHeld.2.2.2.1, (hb.cell (World.block_lt_of_cell? _ _ hHeld.2.2.2.2.1)).trans hHeld.2.2.2.2.1, (hb.cell (World.block_lt_of_cell? _ _ hHeld.2.2.2.2.2)).trans hHeld.2.2.2.2.2⟩ (fun hHeld => ?_)
        clear hK K
        refine nm_ ?_
        clear hb
        refine pu_ 39 78 (mk 46 1099511627775) HT_ ?_
        refine pu_ 40 79 (mk 46 2199023255551) HT_ ?_
        refine pu_ 41 80 (mk 46 4398046511103) HT_ ?_
        refine pu_ 42 81 (mk 46 8796093022207) HT_ ?_
        refine one_ (i := 43) (N := some 82) (mk 46 17592186044415) rfl rfl (one_of HT_.out (by kernel_rfl)) (by decide) (fun K hK => ?_)
        refine goes_ Try.func115 (by kernel_rfl) rfl #[.int .i64 N, .int .i64 0, .int .i64 16] (by rfl) rfl rfl (by (try simp only [List.map_toArray, List.map_cons, List.map_nil]); first | done | rfl | (simp only [List.length_drop, List.length_take]; rfl)) ?_
        with_reducible refine (within_c N 0 16 _ H5.out _).mono ?_
        rintro e wn4 ⟨rfl, hb⟩
        refine ⟨_, rfl, ?_⟩
        have n0_ := Aside0.mk (below_step HB.out hb)
        have n1_ := Aside0.mk (blk_below BKgs.out hb)
        have n2_ := Aside0.mk (blk_below BKgg.out hb)
        clear HB BKgs BKgg
        have HB := n0_
        have BKgs := n1_
        have BKgg := n2_
        clear n0_ n1_ n2_
        refine hK.out _ _ ⟨(hb.cell (World.block_lt_of_cell? _ _ hHeld.1)).trans hHeld.1, (hb.cell (World.block_lt_of_cell? _ _ hHeld.2.1)).trans hHeld.2.1, (hb.cell (World.block_lt_of_cell? _ _ hHeld.2.2.1)).trans hHeld.2.2.1, (hb.cell (World.block_lt_of_cell? _ _ hHeld.2.2.2.1)).trans hHeld.2.2.2.1, (hb.cell (World.block_lt_of_cell? _ _ hHeld.2.2.2.2.1)).trans hHeld.2.2.2.2.1, (hb.cell (World.block_lt_of_cell? _ _ hHeld.2.2.2.2.2)).trans hHeld.2.2.2.2.2⟩ (fun hHeld => ?_)
        clear hK K
        refine nm_ ?_
        clear hb
        refine pu_ 44 83 (mk 46 35184372088831) HT_ ?_
        refine pu_ 45 84 (mk 46 70368744177663) HT_ ?_
        refine done_ (done_of HT_.out (by kernel_rfl)) ?_
        go_wp2
        refine bodyPost_ret (results_list (rs := [.tmp 10, .tmp 11]) rfl (by simp) (.tmp (.tmp .nil))) rfl ?_
        exact ⟨rfl, HB.out⟩
set_option maxRecDepth 100000 in
set_option maxHeartbeats 4000000 in
theorem newSet_0 (n m D : Int) (A1 : Option Addr) (c1 : Nat) (b : List S27) (g0 g1 N : Int) (w : World) (hs : slB n m D = true) (hr : Kd.C k27 w A1 b.length b) (hc : b.length ≤ c1) (hb1 : boxB b = true) (hb2 : okS g0 g1 = true) (hl : b.length = 2) (ha : stB (b.getD 0 z27).f0 (b.getD 1 z27).f0 = true ∧ stB (b.getD 0 z27).f1 (b.getD 1 z27).f1 = true ∧ guB g0 = true ∧ guB g1 = true ∧ nB N = true) :
    Calls Try.prog 142 #[.agg #[.int .i64 n, .int .i64 m, .int .i64 D], .slice A1 b.length c1, .agg #[.int .i64 g0, .int .i64 g1], .int .i64 N, .slice none 0 0] w fun e w' => ∃ g, e = .returned (.tuple #[.pointer (some ⟨g, 0, none⟩), .int .i64 0]) ∧ w'.heap[g]? = some (.cells (seC n m D A1 b.length c1 g0 g1) 216 (0, 0)) ∧ w.heap.size ≤ g ∧ Below w.heap.size w w' := by
  have HS := Aside0.mk hs
  have HR := Aside0.mk hr
  have HX := Aside0.mk hb1
  have HX2 := Aside0.mk hb2
  have ck := check_total b
  rw [hb1] at ck
  have HK := Aside0.mk ck
  have ck2 := check_total [⟨g0, g1⟩]
  rw [box1, hb2] at ck2
  have HK2 := Aside0.mk ck2
  clear hs hr hb1 hb2 ck ck2
  have HLen := Aside0.mk hl
  obtain ⟨p, hp⟩ : ∃ p, b.getD 0 z27 = p := ⟨_, rfl⟩
  obtain ⟨q, hq⟩ : ∃ q, b.getD 1 z27 = q := ⟨_, rfl⟩
  rw [hp, hq] at ha
  have HPQ : Aside0 (b.getD 0 z27 = p ∧ b.getD 1 z27 = q) := ⟨⟨hp, hq⟩⟩
  clear hp hq
  have H1 : Aside0 (stB p.f0 q.f0 = true) := ⟨ha.1⟩
  have H2 : Aside0 (stB p.f1 q.f1 = true) := ⟨ha.2.1⟩
  have H3 : Aside0 (sling_within.f g0 (-100) 100 = some true) := ⟨by rw [sw7]; exact congrArg some ha.2.2.1⟩
  have H4 : Aside0 (sling_within.f g1 (-100) 100 = some true) := ⟨by rw [sw7]; exact congrArg some ha.2.2.2.1⟩
  have H5 : Aside0 (sling_within.f N 0 16 = some true) := ⟨by rw [sw7]; exact congrArg some ha.2.2.2.2⟩
  clear ha hl
  have HB := Aside0.mk (Below.refl w.heap.size w)
  go_enter Try.func142, Try.ntmps142
  go_wp2_with (first | ((with_reducible refine gate_dst (N := 5) rfl ?_); refine box_event ?hg (N := 5) ?hd (cs := #[.int .i64 n, .int .i64 m, .int .i64 D]) (t := 105) ?hr ?_; (case hd => rfl); (case hg => rfl); (case hr => first | (go_simp; done) | (go_simp; rfl)); intro gs hg w1 hbox hb; have n0_ := Aside0.mk (below_step HB.out hb); have x0_ := Aside0.mk (hbox); have x1_ := Aside0.mk ((by rw [hg]; exact HB.out.size : w.heap.size ≤ gs)); clear HB; have HB := n0_; clear n0_; have BKgs := x0_; clear x0_; have GEgs := x1_; clear x1_; clear hb hbox hg; skip) | ((with_reducible refine gate_dst (N := 7) rfl ?_); refine box_event ?hg (N := 7) ?hd (cs := #[.int .i64 g0, .int .i64 g1]) (t := 27) ?hr ?_; (case hd => rfl); (case hg => rfl); (case hr => first | (go_simp; done) | (go_simp; rfl)); intro gg hg w2 hbox hb; have n0_ := Aside0.mk (below_step HB.out hb); have m0_ := Aside0.mk (blk_below BKgs.out hb); have x0_ := Aside0.mk (hbox); have x1_ := Aside0.mk ((by rw [hg]; exact HB.out.size : w.heap.size ≤ gg)); clear HB; have HB := n0_; clear n0_; clear BKgs; have BKgs := m0_; clear m0_; have BKgg := x0_; clear x0_; have GEgg := x1_; clear x1_; clear hb hbox hg; have zgs0 : w2.cell? ⟨gs, 0, none⟩ = some (.int .i64 n) := (blk_cell BKgs.out 0).trans rfl; have zgs1 : w2.cell? ⟨gs, 1, none⟩ = some (.int .i64 m) := (blk_cell BKgs.out 1).trans rfl; have zgs2 : w2.cell? ⟨gs, 2, none⟩ = some (.int .i64 D) := (blk_cell BKgs.out 2).trans rfl; skip) | (go_at_call 68; refine (chk_yes n m D HS.out _).mono ?_; rintro e w3 ⟨rfl, hb⟩; have n0_ := Aside0.mk (below_step HB.out hb); have m0_ := Aside0.mk (blk_below BKgs.out hb); have m1_ := Aside0.mk (blk_below BKgg.out hb); clear HB; have HB := n0_; clear n0_; clear BKgs; have BKgs := m0_; clear m0_; clear BKgg; have BKgg := m1_; clear m1_; clear hb; clear zgs0; clear zgs1; clear zgs2; have zgg0 : w3.cell? ⟨gg, 0, none⟩ = some (.int .i64 g0) := (blk_cell BKgg.out 0).trans rfl; have zgg1 : w3.cell? ⟨gg, 1, none⟩ = some (.int .i64 g1) := (blk_cell BKgg.out 1).trans rfl; skip))
  apply share
  case h =>
    intro hG
    go_region_held3 (fun w' => w'.cell? ⟨gg, 0, none⟩ = some (.int .i64 g0) ∧ w'.cell? ⟨gg, 1, none⟩ = some (.int .i64 g1))
      (((try dsimp only); (first | assumption | exact ⟨zgg0, zgg1⟩ | exact keep2 (below_alloc (Below.refl _ _) _) (by assumption))))
      ((first | (go_at_call 174; refine (boxes_none _).mono ?_; rintro e w9 ⟨rfl, rfl⟩)))
    all_goals
      have b3 : Below w3.heap.size w3 (((w3.alloc (.cells #[.int .i64 g0, .int .i64 g1] 27)).alloc (.cells #[.slice A1 b.length c1, .slice (some ⟨w3.heap.size, 0, none⟩) 1 1] 38)).drew) := below_drew (below_alloc (below_alloc (Below.refl _ _) _) _)
      have kO : (((w3.alloc (.cells #[.int .i64 g0, .int .i64 g1] 27)).alloc (.cells #[.slice A1 b.length c1, .slice (some ⟨w3.heap.size, 0, none⟩) 1 1] 38)).drew).heap[w3.heap.size + 1]? = some (.cells #[.slice A1 b.length c1, .slice (some ⟨w3.heap.size, 0, none⟩) 1 1] 38 (0, 0)) := blk_drew (by have h := blk_new (w3.alloc (.cells #[.int .i64 g0, .int .i64 g1] 27)) (.cells #[.slice A1 b.length c1, .slice (some ⟨w3.heap.size, 0, none⟩) 1 1] 38); rwa [World.size_alloc] at h)
      have hC1 : Kd.C k27 (((w3.alloc (.cells #[.int .i64 g0, .int .i64 g1] 27)).alloc (.cells #[.slice A1 b.length c1, .slice (some ⟨w3.heap.size, 0, none⟩) 1 1] 38)).drew) (some ⟨w3.heap.size, 0, none⟩) 1 [⟨g0, g1⟩] := Kd.C_drew (Kd.C_alloc (C_new27 w3 g0 g1) _)
      have n0_ := Aside0.mk (HB.out.trans (b3.mono HB.out.size))
      have n1_ := Aside0.mk (blk_below BKgs.out b3)
      have n2_ := Aside0.mk (blk_below BKgg.out b3)
      obtain ⟨wx, hwx⟩ : ∃ wx, ((w3.alloc (.cells #[.int .i64 g0, .int .i64 g1] 27)).alloc (.cells #[.slice A1 b.length c1, .slice (some ⟨w3.heap.size, 0, none⟩) 1 1] 38)).drew = wx := ⟨_, rfl⟩
      rw [hwx] at kO hC1 n0_ n1_ n2_ ⊢
      obtain ⟨go, hgo⟩ : ∃ go, w3.heap.size + 1 = go := ⟨_, rfl⟩
      obtain ⟨gi, hgi⟩ : ∃ gi, w3.heap.size = gi := ⟨_, rfl⟩
      rw [hgo] at kO ⊢
      rw [hgi] at kO hC1 ⊢
      have kN0 := n0_.out
      have kN1 := n1_.out
      have kN2 := n2_.out
      clear hwx hgo hgi b3 n0_ n1_ n2_
      revert kO hC1 kN0 kN1 kN2
      revert gi
      revert go
      revert wx
      exact hG.out
  case hg =>
    clear HB BKgs BKgg zgg0 zgg1
    intro wx go gi hC1 kO n0_ n1_ n2_
    have KO := Aside0.mk kO
    have HC1 := Aside0.mk hC1
    have HB := Aside0.mk n0_
    have BKgs := Aside0.mk n1_
    have BKgg := Aside0.mk n2_
    clear kO hC1 n0_ n1_ n2_
    try go_wp2
    go_loopw [29] (fun v29 wr => ∃ i : Nat, v29 = .int .i64 i ∧ Aside0 (i ≤ 2 ∧ (1 ≤ i → boxB b = true) ∧ (2 ≤ i → okS g0 g1 = true)) ∧ Aside0 (Below wx.heap.size wx wr)) (fun v29 _ => 2 - (intOf v29).toNat)
    case atStart => exact ⟨0, rfl, ⟨by omega, by omega, by omega⟩, ⟨Below.refl _ _⟩⟩
    case round =>
      obtain ⟨i, rfl, HA, HI⟩ := hrel
      have z0 := (blk_cell (blk_below KO.out HI.out) 0).trans rfl
      have z1 := (blk_cell (blk_below KO.out HI.out) 1).trans rfl
      by_cases hi : i < 2
      · rcases (show i = 0 ∨ i = 1 by omega) with rfl | rfl
        · rw [show ((0 : Nat) : Int) = 0 from rfl]
          go_wp2_with (go_at_call 26; refine (spans_Check.calls A1 c1 b _ _ (Kd.C_below HR.out (HB.out.trans (HI.out.mono HB.out.size))) hc HK.out).mono ?_; rintro e w9 ⟨rfl, hb⟩; have HB9 := Aside0.mk (HI.out.trans (hb.mono HI.out.size)); clear hb)
          exact ⟨⟨1, rfl, ⟨by omega, fun _ => HX.out, by omega⟩, HB9⟩, by decide⟩
        · rw [show ((1 : Nat) : Int) = 1 from rfl]
          go_wp2_with (go_at_call 26; refine (spans_Check.calls _ 1 [⟨g0, g1⟩] _ _ (Kd.C_below HC1.out HI.out) (Nat.le_refl _) HK2.out).mono ?_; rintro e w9 ⟨rfl, hb⟩; have HB9 := Aside0.mk (HI.out.trans (hb.mono HI.out.size)); clear hb)
          exact ⟨⟨2, rfl, ⟨by omega, fun _ => HX.out, fun _ => HX2.out⟩, HB9⟩, by decide⟩
      · obtain rfl : i = 2 := by have := HA.out.1; omega
        have hbw := HB.out.trans (HI.out.mono HB.out.size)
        have n0_ := Aside0.mk hbw
        have n1_ := Aside0.mk (blk_below BKgs.out HI.out)
        have n2_ := Aside0.mk (blk_below BKgg.out HI.out)
        clear HB BKgs BKgg hbw
        have HB := n0_
        have BKgs := n1_
        have BKgg := n2_
        clear n0_ n1_ n2_ HI KO HC1 z0 z1 hi HA
        have zgg0 : wr.cell? ⟨gg, 0, none⟩ = some (.int .i64 g0) := (blk_cell BKgg.out 0).trans rfl
        have zgg1 : wr.cell? ⟨gg, 1, none⟩ = some (.int .i64 g1) := (blk_cell BKgg.out 1).trans rfl
        have hlen : b.length = 2 := HLen.out
        obtain ⟨ad, e0, zp0, zp1⟩ := at_T27 (Kd.C_below HR.out HB.out) 0 (by omega) (by omega)
        obtain ⟨ad2, e1, zq0, zq1⟩ := at_T27 (Kd.C_below HR.out HB.out) 1 (by omega) (by omega)
        rw [e0] at e1
        injection e1 with e1
        subst e1
        subst e0
        rw [show Int.toNat 0 * 2 = 0 from rfl] at zp0 zp1
        rw [show Int.toNat 1 * 2 = 2 from rfl] at zq0 zq1
        rw [show rd_T27 b 0 = p from HPQ.out.1] at zp0 zp1
        rw [show rd_T27 b 1 = q from HPQ.out.2] at zq0 zq1
        rw [show ad.add 0 = ad from rfl] at zp0 zp1
        rw [show ad.add 2 = ⟨ad.block, ad.off + 2, none⟩ from rfl] at zq0 zq1
        have hlt0 : (0 : Int) < (b.length : Int) := by omega
        have hlt1 : (1 : Int) < (b.length : Int) := by omega
        have hn0 : 0 < b.length := by omega
        have hn1 : 1 < b.length := by omega
        have hne : ((b.length : Int) != 2) = false := by simp; omega
        clear hlen
        go_wp2
        refine start_ (n := 46) (S := fun w' => w'.cell? ⟨gg, 0, none⟩ = some (.int .i64 g0) ∧ w'.cell? ⟨gg, 1, none⟩ = some (.int .i64 g1) ∧ w'.cell? ad = some (.int .i64 p.f0) ∧ w'.cell? ⟨ad.block, ad.off + 1, none⟩ = some (.int .i64 p.f1) ∧ w'.cell? ⟨ad.block, ad.off + 2, none⟩ = some (.int .i64 q.f0) ∧ w'.cell? ⟨ad.block, ad.off + 3, none⟩ = some (.int .i64 q.f1)) (ds := []) (mk 46 0) (by kernel_rfl) rfl (by kernel_rfl) ⟨zgg0, zgg1, zp0, zp1, zq0, zq1⟩ (fun hHeld => ?_)
        refine with_tabW newSet.tab11 newSet.bits11 (fun HT_ HW_ => ?_)
        have hb0 := below_drew1 HB.out
        have hk0 := blk_drew BKgs.out
        have hk1 := blk_drew BKgg.out
        generalize wr.drew = wz at hb0 hk0 hk1 hHeld ⊢
        clear HB BKgs BKgg zgg0 zgg1 zp0 zp1 zq0 zq1
        have HB := Aside0.mk hb0
        have BKgs := Aside0.mk hk0
        have BKgg := Aside0.mk hk1
        clear hb0 hk0 hk1
        refine pu_ 0 39 (mk 46 1) HT_ ?_
        refine pu_ 1 40 (mk 46 3) HT_ ?_
        refine pu_ 2 41 (mk 46 7) HT_ ?_
        refine pu_ 3 42 (mk 46 15) HT_ ?_
        refine pu_ 4 43 (mk 46 31) HT_ ?_
        refine pu_ 5 44 (mk 46 63) HT_ ?_
        refine pu_ 6 45 (mk 46 127) HT_ ?_
        refine tk_ 7 46 (mk 46 255) HT_ HW_ hHeld ?_
        refine pu_ 8 47 (mk 46 511) HT_ ?_
        refine pu_ 9 48 (mk 46 1023) HT_ ?_
        refine pu_ 10 49 (mk 46 2047) HT_ ?_
        refine tk_ 11 50 (mk 46 4095) HT_ HW_ hHeld ?_
        refine pu_ 12 51 (mk 46 8191) HT_ ?_
        refine one_ (i := 13) (N := some 52) (mk 46 16383) rfl rfl (one_of HT_.out (by kernel_rfl)) (by decide) (fun K hK => ?_)
        refine goes_ Try.func129 (by kernel_rfl) rfl #[.agg #[.int .i64 p.f0, .int .i64 q.f0]] (by rfl) rfl rfl (by (try simp only [List.map_toArray, List.map_cons, List.map_nil]); first | done | rfl | (simp only [List.length_drop, List.length_take]; rfl)) ?_
        with_reducible refine (started_calls p.f0 q.f0 _).mono ?_
        rw [H1.out]; rintro e wn0 ⟨rfl, hb⟩
        refine ⟨_, rfl, ?_⟩
        have n0_ := Aside0.mk (below_step HB.out hb)
        have n1_ := Aside0.mk (blk_below BKgs.out hb)
        have n2_ := Aside0.mk (blk_below BKgg.out hb)
        clear HB BKgs BKgg
        have HB := n0_
        have BKgs := n1_
        have BKgg := n2_
        clear n0_ n1_ n2_
        refine hK.out _ _ ⟨(hb.cell (World.block_lt_of_cell? _ _ hHeld.1)).trans hHeld.1, (hb.cell (World.block_lt_of_cell? _ _ hHeld.2.1)).trans hHeld.2.1, (hb.cell (World.block_lt_of_cell? _ _ hHeld.2.2.1)).trans hHeld.2.2.1, (hb.cell (World.block_lt_of_cell? _ _ hHeld.2.2.2.1)).trans hHeld.2.2.2.1, (hb.cell (World.block_lt_of_cell? _ _ hHeld.2.2.2.2.1)).trans hHeld.2.2.2.2.1, (hb.cell (World.block_lt_of_cell? _ _ hHeld.2.2.2.2.2)).trans hHeld.2.2.2.2.2⟩ (fun hHeld => ?_)
        clear hK K
        refine nm_ ?_
        clear hb
        refine pu_ 14 53 (mk 46 32767) HT_ ?_
        refine pu_ 15 54 (mk 46 65535) HT_ ?_
        refine pu_ 16 55 (mk 46 131071) HT_ ?_
        refine pu_ 17 56 (mk 46 262143) HT_ ?_
        refine pu_ 18 57 (mk 46 524287) HT_ ?_
        refine pu_ 19 58 (mk 46 1048575) HT_ ?_
        refine tk_ 20 59 (mk 46 2097151) HT_ HW_ hHeld ?_
        refine pu_ 21 60 (mk 46 4194303) HT_ ?_
        refine pu_ 22 61 (mk 46 8388607) HT_ ?_
        refine pu_ 23 62 (mk 46 16777215) HT_ ?_
        refine tk_ 24 63 (mk 46 33554431) HT_ HW_ hHeld ?_
        refine pu_ 25 64 (mk 46 67108863) HT_ ?_
        refine one_ (i := 26) (N := some 65) (mk 46 134217727) rfl rfl (one_of HT_.out (by kernel_rfl)) (by decide) (fun K hK => ?_)
        refine goes_ Try.func129 (by kernel_rfl) rfl #[.agg #[.int .i64 p.f1, .int .i64 q.f1]] (by rfl) rfl rfl (by (try simp only [List.map_toArray, List.map_cons, List.map_nil]); first | done | rfl | (simp only [List.length_drop, List.length_take]; rfl)) ?_
        with_reducible refine (started_calls p.f1 q.f1 _).mono ?_
        rw [H2.out]; rintro e wn1 ⟨rfl, hb⟩
        refine ⟨_, rfl, ?_⟩
        have n0_ := Aside0.mk (below_step HB.out hb)
        have n1_ := Aside0.mk (blk_below BKgs.out hb)
        have n2_ := Aside0.mk (blk_below BKgg.out hb)
        clear HB BKgs BKgg
        have HB := n0_
        have BKgs := n1_
        have BKgg := n2_
        clear n0_ n1_ n2_
        refine hK.out _ _ ⟨(hb.cell (World.block_lt_of_cell? _ _ hHeld.1)).trans hHeld.1, (hb.cell (World.block_lt_of_cell? _ _ hHeld.2.1)).trans hHeld.2.1, (hb.cell (World.block_lt_of_cell? _ _ hHeld.2.2.1)).trans hHeld.2.2.1, (hb.cell (World.block_lt_of_cell? _ _ hHeld.2.2.2.1)).trans hHeld.2.2.2.1, (hb.cell (World.block_lt_of_cell? _ _ hHeld.2.2.2.2.1)).trans hHeld.2.2.2.2.1, (hb.cell (World.block_lt_of_cell? _ _ hHeld.2.2.2.2.2)).trans hHeld.2.2.2.2.2⟩ (fun hHeld => ?_)
        clear hK K
        refine nm_ ?_
        clear hb
        refine pu_ 27 66 (mk 46 268435455) HT_ ?_
        refine pu_ 28 67 (mk 46 536870911) HT_ ?_
        refine pu_ 29 68 (mk 46 1073741823) HT_ ?_
        refine pu_ 30 69 (mk 46 2147483647) HT_ ?_
        refine tk_ 31 70 (mk 46 4294967295) HT_ HW_ hHeld ?_
        refine one_ (i := 32) (N := some 71) (mk 46 8589934591) rfl rfl (one_of HT_.out (by kernel_rfl)) (by decide) (fun K hK => ?_)
        refine goes_ Try.func115 (by kernel_rfl) rfl #[.int .i64 g0, .int .i64 (-100), .int .i64 100] (by rfl) rfl rfl (by (try simp only [List.map_toArray, List.map_cons, List.map_nil]); first | done | rfl | (simp only [List.length_drop, List.length_take]; rfl)) ?_
        with_reducible refine (within_c g0 (-100) 100 _ H3.out _).mono ?_
        rintro e wn2 ⟨rfl, hb⟩
        refine ⟨_, rfl, ?_⟩
        have n0_ := Aside0.mk (below_step HB.out hb)
        have n1_ := Aside0.mk (blk_below BKgs.out hb)
        have n2_ := Aside0.mk (blk_below BKgg.out hb)
        clear HB BKgs BKgg
        have HB := n0_
        have BKgs := n1_
        have BKgg := n2_
        clear n0_ n1_ n2_
        refine hK.out _ _ ⟨(hb.cell (World.block_lt_of_cell? _ _ hHeld.1)).trans hHeld.1, (hb.cell (World.block_lt_of_cell? _ _ hHeld.2.1)).trans hHeld.2.1, (hb.cell (World.block_lt_of_cell? _ _ hHeld.2.2.1)).trans hHeld.2.2.1, (hb.cell (World.block_lt_of_cell? _ _ hHeld.2.2.2.1)).trans hHeld.2.2.2.1, (hb.cell (World.block_lt_of_cell? _ _ hHeld.2.2.2.2.1)).trans hHeld.2.2.2.2.1, (hb.cell (World.block_lt_of_cell? _ _ hHeld.2.2.2.2.2)).trans hHeld.2.2.2.2.2⟩ (fun hHeld => ?_)
        clear hK K
        refine nm_ ?_
        clear hb
        refine pu_ 33 72 (mk 46 17179869183) HT_ ?_
        refine pu_ 34 73 (mk 46 34359738367) HT_ ?_
        refine pu_ 35 74 (mk 46 68719476735) HT_ ?_
        refine pu_ 36 75 (mk 46 137438953471) HT_ ?_
        refine tk_ 37 76 (mk 46 274877906943) HT_ HW_ hHeld ?_
        refine one_ (i := 38) (N := some 77) (mk 46 549755813887) rfl rfl (one_of HT_.out (by kernel_rfl)) (by decide) (fun K hK => ?_)
        refine goes_ Try.func115 (by kernel_rfl) rfl #[.int .i64 g1, .int .i64 (-100), .int .i64 100] (by rfl) rfl rfl (by (try simp only [List.map_toArray, List.map_cons, List.map_nil]); first | done | rfl | (simp only [List.length_drop, List.length_take]; rfl)) ?_
        with_reducible refine (within_c g1 (-100) 100 _ H4.out _).mono ?_
        rintro e wn3 ⟨rfl, hb⟩
        refine ⟨_, rfl, ?_⟩
        have n0_ := Aside0.mk (below_step HB.out hb)
        have n1_ := Aside0.mk (blk_below BKgs.out hb)
        have n2_ := Aside0.mk (blk_below BKgg.out hb)
        clear HB BKgs BKgg
        have HB := n0_
        have BKgs := n1_
        have BKgg := n2_
        clear n0_ n1_ n2_
        refine hK.out _ _ ⟨(hb.cell (World.block_lt_of_cell? _ _ hHeld.1)).trans hHeld.1, (hb.cell (World.block_lt_of_cell? _ _ hHeld.2.1)).trans hHeld.2.1, (hb.cell (World.block_lt_of_cell? _ _ hHeld.2.2.1)).trans hHeld.2.2.1, (hb.cell (World.block_lt_of_cell? _ _ hHeld.2.2.2.1)).trans hHeld.2.2.2.1, (hb.cell (World.block_lt_of_cell? _ _ hHeld.2.2.2.2.1)).trans hHeld.2.2.2.2.1, (hb.cell (World.block_lt_of_cell? _ _ hHeld.2.2.2.2.2)).trans hHeld.2.2.2.2.2⟩ (fun hHeld => ?_)
        clear hK K
        refine nm_ ?_
        clear hb
        refine pu_ 39 78 (mk 46 1099511627775) HT_ ?_
        refine pu_ 40 79 (mk 46 2199023255551) HT_ ?_
        refine pu_ 41 80 (mk 46 4398046511103) HT_ ?_
        refine pu_ 42 81 (mk 46 8796093022207) HT_ ?_
        refine one_ (i := 43) (N := some 82) (mk 46 17592186044415) rfl rfl (one_of HT_.out (by kernel_rfl)) (by decide) (fun K hK => ?_)
        refine goes_ Try.func115 (by kernel_rfl) rfl #[.int .i64 N, .int .i64 0, .int .i64 16] (by rfl) rfl rfl (by (try simp only [List.map_toArray, List.map_cons, List.map_nil]); first | done | rfl | (simp only [List.length_drop, List.length_take]; rfl)) ?_
        with_reducible refine (within_c N 0 16 _ H5.out _).mono ?_
        rintro e wn4 ⟨rfl, hb⟩
        refine ⟨_, rfl, ?_⟩
        have n0_ := Aside0.mk (below_step HB.out hb)
        have n1_ := Aside0.mk (blk_below BKgs.out hb)
        have n2_ := Aside0.mk (blk_below BKgg.out hb)
        clear HB BKgs BKgg
        have HB := n0_
        have BKgs := n1_
        have BKgg := n2_
        clear n0_ n1_ n2_
        refine hK.out _ _ ⟨(hb.cell (World.block_lt_of_cell? _ _ hHeld.1)).trans hHeld.1, (hb.cell (World.block_lt_of_cell? _ _ hHeld.2.1)).trans hHeld.2.1, (hb.cell (World.block_lt_of_cell? _ _ hHeld.2.2.1)).trans hHeld.2.2.1, (hb.cell (World.block_lt_of_cell? _ _ hHeld.2.2.2.1)).trans hHeld.2.2.2.1, (hb.cell (World.block_lt_of_cell? _ _ hHeld.2.2.2.2.1)).trans hHeld.2.2.2.2.1, (hb.cell (World.block_lt_of_cell? _ _ hHeld.2.2.2.2.2)).trans hHeld.2.2.2.2.2⟩ (fun hHeld => ?_)
        clear hK K
        refine nm_ ?_
        clear hb
        refine pu_ 44 83 (mk 46 35184372088831) HT_ ?_
        refine pu_ 45 84 (mk 46 70368744177663) HT_ ?_
        refine done_ (done_of HT_.out (by kernel_rfl)) ?_
        have zs0 := (blk_cell BKgs.out 0).trans rfl
        have zs1 := (blk_cell BKgs.out 1).trans rfl
        have zs2 := (blk_cell BKgs.out 2).trans rfl
        have zgg0 := (blk_cell BKgg.out 0).trans rfl
        have zgg1 := (blk_cell BKgg.out 1).trans rfl
        go_wp2_with ((with_reducible refine gate_dst (N := 89) rfl ?_); refine box_event ?hg (N := 89) ?hd (cs := #[.int .i64 n, .int .i64 m, .int .i64 D, .slice (some ad) b.length c1, .int .i64 g0, .int .i64 g1]) (t := 216) ?hr ?_; (case hd => rfl); (case hg => rfl); (case hr => first | (go_simp; done) | (go_simp; rfl)); intro gx hgx wf hbox hb; have BKx := Aside0.mk hbox; have GEx : Aside0 (w.heap.size ≤ gx) := ⟨by rw [hgx]; exact HB.out.size⟩; have HF := Aside0.mk (below_step HB.out hb); clear hb hbox hgx)
        refine bodyPost_ret (results_list (rs := [.tmp 10, .tmp 11]) rfl (by simp) (.tmp (.tmp .nil))) rfl ?_
        exact ⟨gx, rfl, BKx.out, GEx.out, HF.out⟩
end Go.Proofs.Yteodlmgmmpkpoaa.PS
end
section
namespace Go.Proofs.Yteodlmgmmpkpoaa.PS
open Go.RowKit Go.Proofs.YteodlmgmmpkpoaaW.PrintWords Go.Proofs.YteodlmgmmpkpoaaW.PrintLast Go.Proofs.YteodlmgmmpkpoaaW.PrintMore
set_option linter.unusedVariables false
set_option linter.unusedSimpArgs false
set_option maxRecDepth 100000 in
set_option maxHeartbeats 4000000 in
theorem span_calls (g : Nat) (n m D : Int) (A1 : Option Addr) (c1 : Nat) (b : List S27) (g0 g1 : Int) (i : Nat) (w : World) (hr : Kd.C k27 w A1 b.length b) (hb : b.length = 2) (hg : w.heap[g]? = some (.cells (seC n m D A1 b.length c1 g0 g1) 216 (0, 0))) :
    Calls Try.prog 149 #[.pointer (some ⟨g, 0, none⟩), .int .i64 i] w fun e w' => e = .returned (.agg #[.int .i64 (spanT b ⟨g0, g1⟩ i).f0, .int .i64 (spanT b ⟨g0, g1⟩ i).f1]) ∧ Below w.heap.size w w' := by
  replace hg : w.heap[g]? = some (.cells #[.int .i64 n, .int .i64 m, .int .i64 D, .slice A1 b.length c1, .int .i64 g0, .int .i64 g1] 216 (0, 0)) := hg
  have HG := Aside0.mk hg
  have HR := Aside0.mk hr
  have HLen := Aside0.mk hb
  clear hg hr hb
  have HB := Aside0.mk (Below.refl w.heap.size w)
  obtain ⟨s, hs⟩ : ∃ s, spanT b ⟨g0, g1⟩ i = s := ⟨_, rfl⟩
  rw [hs]
  by_cases h2 : i < 2
  · have hsp : b.getD i z27 = s := by rw [← hs]; unfold spanT; rw [if_pos h2]
    have hlen := HLen.out
    obtain ⟨ad, e0, x0, x1⟩ := at_T27 HR.out (i : Int) (by omega) (by omega)
    subst e0
    rw [rdT27_nat, Int.toNat_natCast, hsp] at x0 x1
    have d0 : decide ((i : Int) < 2) = true := decide_eq_true (by omega)
    have i0 : (0 : Int) ≤ (i : Int) := by omega
    have i1 : (i : Int) < (b.length : Int) := by omega
    have HX0 := Aside0.mk x0
    have HX1 := Aside0.mk x1
    clear hs hsp hlen x0 x1
    go_enter Try.func149, Try.ntmps149
    go_wp2_with ((with_reducible refine gate_dst (N := 4) rfl ?_); refine box_event ?hg (N := 4) ?hd (cs := #[.int .i64 0, .int .i64 0]) (t := 27) ?hr ?_; (case hd => rfl); (case hg => rfl); (case hr => first | (go_simp; done) | (go_simp; rfl)); intro gq hgq w1 hbox hb; have HN := Aside0.mk hbox; have GE : Aside0 (w.heap.size ≤ gq) := ⟨by rw [hgq]; exact Nat.le_refl _⟩; have HK := Aside0.mk (blk_below HG.out hb); have HB1 := Aside0.mk hb; clear hbox hb hgq; have z0 := (blk_cell HN.out 0).trans rfl; have z1 := (blk_cell HN.out 1).trans rfl; have f0 := blk_frozen HN.out 0; have f1 := blk_frozen HN.out 1; have x0 := (HB1.out.cell (World.block_lt_of_cell? _ _ HX0.out)).trans HX0.out; have x1 := (HB1.out.cell (World.block_lt_of_cell? _ _ HX1.out)).trans HX1.out; have y3 : w1.cell? ⟨g, 3, none⟩ = some (.slice (some ad) b.length c1) := (blk_cell HK.out 3).trans rfl)
    refine bodyPost_ret (results_cell_row rfl _ _ gq 27 #[.int .i64 s.f0, .int .i64 s.f1] (0, 0) _ rfl (blk_put (cs := #[.int .i64 s.f0, .int .i64 0]) (blk_put (cs := #[.int .i64 0, .int .i64 0]) HN.out 0 _ rfl) 1 _ rfl) Try.underlying27 rfl (by kernel_rfl)) rfl ?_
    exact ⟨rfl, below_set (below_set HB1.out GE.out) GE.out⟩
  · have hsp : (⟨g0, g1⟩ : S27) = s := by rw [← hs]; unfold spanT; rw [if_neg h2]
    subst hsp
    have d0 : decide ((i : Int) < 2) = false := decide_eq_false (by omega)
    clear hs
    go_enter Try.func149, Try.ntmps149
    go_wp2_with ((with_reducible refine gate_dst (N := 4) rfl ?_); refine box_event ?hg (N := 4) ?hd (cs := #[.int .i64 0, .int .i64 0]) (t := 27) ?hr ?_; (case hd => rfl); (case hg => rfl); (case hr => first | (go_simp; done) | (go_simp; rfl)); intro gq hgq w1 hbox hb; have HN := Aside0.mk hbox; have GE : Aside0 (w.heap.size ≤ gq) := ⟨by rw [hgq]; exact Nat.le_refl _⟩; have HK := Aside0.mk (blk_below HG.out hb); have HB1 := Aside0.mk hb; clear hbox hb hgq; have z0 := (blk_cell HN.out 0).trans rfl; have z1 := (blk_cell HN.out 1).trans rfl; have f0 := blk_frozen HN.out 0; have f1 := blk_frozen HN.out 1; have y4 : w1.cell? ⟨g, 4, none⟩ = some (.int .i64 g0) := (blk_cell HK.out 4).trans rfl; have y5 : w1.cell? ⟨g, 5, none⟩ = some (.int .i64 g1) := (blk_cell HK.out 5).trans rfl)
    refine bodyPost_ret (results_cell_row rfl _ _ gq 27 #[.int .i64 g0, .int .i64 g1] (0, 0) _ rfl (blk_put (cs := #[.int .i64 g0, .int .i64 0]) (blk_put (cs := #[.int .i64 0, .int .i64 0]) HN.out 0 _ rfl) 1 _ rfl) Try.underlying27 rfl (by kernel_rfl)) rfl ?_
    exact ⟨rfl, below_set (below_set HB1.out GE.out) GE.out⟩
end Go.Proofs.Yteodlmgmmpkpoaa.PS
end
