-- Printed by a program of this session out of the translation (hybrid print) and out of hand proofs. Not trusted: Lean checks it.
import Derived.Below
import Derived.Deep.Draws
import Derived.Deep.AppendLies
import Derived.Maps.AppendAt
import Derived.OwnWalk
import Derived.Laws.BytesArg
import Derived.Laws.MakeOwn
import Derived.Laws.OwnMore
import Derived.Deep.OwnRows
import Derived.Tactics
import Derived.Lib.ConvBytes
import Derived.Laws.Slices
import Derived.WalkKit
import Derived.KernelRfl
import Derived.RowKit3
import Derived.Deep.LoopGhost
import Derived.Deep.QuietTactic
import Derived.BigQuiet
import Derived.WideLaws
import Derived.Deep.DeepCutAuto
import Derived.Deep.CutBlock
import Derived.Deep.RegionHeld3
import Derived.Laws.Rows
import Derived.Lib.AppendStr
import Derived.ArgAppend
import Derived.Laws.IdiomCopy
import Derived.RowKit
import Derived.OrdersHeld
import Derived.Laws.BitsLemmas
import Derived.Test.YteodlmgmmpkpoaaProg
import Derived.StillTailTactics
import Derived.Test.YteodlmgmmpkpoaaV2
section
namespace Go.Proofs.Yteodlmgmmpkpoaa.PS
open Go.RowKit Go.Proofs.YteodlmgmmpkpoaaW.PrintWords Go.Proofs.YteodlmgmmpkpoaaW.PrintLast Go.Proofs.YteodlmgmmpkpoaaW.PrintMore
attribute [local go_sem] max2_int min2_int max_two min_two max_three min_three max_four min_four   -- for this text's walks alone
set_option linter.unusedVariables false
set_option linter.unusedSimpArgs false
attribute [local go_sem high] eqA27
mutual
def swashplatelaw01_SpansValues.j0 : Nat → Bool → List Int → List Int → List (List Int) → Int → Int → List Int → List Int → List (List Int) → Option (Bool)
  | 0, _, _, _, _, _, _, _, _, _ => none
  | k + 1, x51, x916000, x916001, x916002, x918000, x918001, x930000, x930001, x930002 => if x51 = true then (some false) else ((swashplateref01_CheckTable.f k x916000 x916001 x916002).bind fun t939 => (if t939 = 0 then ((swashplateref01_From.f x918000 0 (wrap64 ((x916000.length : Int) - 1))).bind fun t940 => (if t940 = true then ((swashplateref01_From.f x918001 0 (wrap64 ((x916001.length : Int) - 1))).bind fun t941 => (swashplatelaw01_SpansValues.j1 k (!t941) x916000 x916001 x916002 x918000 x918001 x930000 x930001 x930002)) else (swashplatelaw01_SpansValues.j1 k true x916000 x916001 x916002 x918000 x918001 x930000 x930001 x930002))) else (swashplatelaw01_SpansValues.j1 k true x916000 x916001 x916002 x918000 x918001 x930000 x930001 x930002)))
def swashplatelaw01_SpansValues.j1 : Nat → Bool → List Int → List Int → List (List Int) → Int → Int → List Int → List Int → List (List Int) → Option (Bool)
  | 0, _, _, _, _, _, _, _, _, _ => none
  | k + 1, x74, x916000, x916001, x916002, x918000, x918001, x930000, x930001, x930002 => if x74 = true then ((swashplatelaw01_works.f k).bind fun t942 => (some t942)) else (if 0 ≤ x918000 then (if x918000 < (x916002.length : Int) then (if 0 ≤ x918001 then (if x918001 < ((rd_L3 x916002 x918000).length : Int) then (if x918000 < (x916000.length : Int) then (if x918001 < (x916001.length : Int) then ((spans_At.f k x930000 x930001 x930002 (rd x916000 x918000) (rd x916001 x918001)).bind fun bt947 => (if bt947.2.2 = 0 then (if (bt947.1 == (rd (rd_L3 x916002 x918000) x918001) && (bt947.2.1 == (rd (rd_L3 x916002 x918000) x918001))) = true then ((swashplatelaw01_works.f k).bind fun t951 => (some t951)) else (some false)) else (some false))) else (none)) else (none)) else (none)) else (none)) else (none)) else (none))
end
def swashplatelaw01_SpansValues.f (k : Nat) (l0_0 : List Int) (l0_1 : List Int) (l0_2 : List (List Int)) (a1_0 : Int) (a1_1 : Int) (a2_0 : Int) (a2_1 : Int) : Option (Bool) := (swashplatelaw01_Far.f k l0_0 l0_1 l0_2).bind fun t918 => (if t918 = true then ((swashplatelaw01_works.f k).bind fun t919 => (some t919)) else ((swashplateref01_Copy.f k l0_0 l0_1 l0_2).bind fun bt920 => ((spans_At.f k bt920.1 bt920.2.1 bt920.2.2 a1_0 a1_1).bind fun bt930 => ((swashplateref01_At.f k l0_0 l0_1 l0_2 a1_0 a1_1).bind fun bt934 => (if (!(bt930.1 == bt934.1) || (!(bt930.2.1 == bt934.2.1))) = true then (swashplatelaw01_SpansValues.j0 k true l0_0 l0_1 l0_2 a2_0 a2_1 bt920.1 bt920.2.1 bt920.2.2) else (if bt930.2.2 = bt934.2.2 then ((swashplatelaw01_sameTable.f k bt920.1 bt920.2.1 bt920.2.2 l0_0 l0_1 l0_2).bind fun t938 => (swashplatelaw01_SpansValues.j0 k (!t938) l0_0 l0_1 l0_2 a2_0 a2_1 bt920.1 bt920.2.1 bt920.2.2)) else (swashplatelaw01_SpansValues.j0 k true l0_0 l0_1 l0_2 a2_0 a2_1 bt920.1 bt920.2.1 bt920.2.2)))))))
def swashplatelaw01_SpansValues.T10 : Bool × List (List Nat × List Nat) := (true, [([], []), ([0], [0]), ([], []), ([2], [2]), ([1, 3], [1, 3]), ([4], [4]), ([], []), ([6], [6]), ([5, 7], [5, 7]), ([8], [8]), ([9, 0, 1, 2, 3, 4, 5, 6, 7, 8, 9], [9])])
def swashplatelaw01_SpansValues.B10 : List Nat := [0, 1, 0, 4, 15, 31, 0, 64, 255, 511, 1023]
theorem swashplatelaw01_SpansValues.tab10 : rtab .any (opsOf Try.f6 10) = swashplatelaw01_SpansValues.T10 := by kernel_rfl
theorem swashplatelaw01_SpansValues.bits10 : waitsOk swashplatelaw01_SpansValues.T10.2 swashplatelaw01_SpansValues.B10 = true := by kernel_rfl
def swashplatelaw01_SpansValues.T11 : Bool × List (List Nat × List Nat) := (true, [([], []), ([], []), ([1], [1]), ([], []), ([3], [3]), ([2, 4], [2, 4]), ([5], [5]), ([], []), ([7], [7]), ([], []), ([9], [9]), ([8, 10], [8, 10]), ([11], [11]), ([0, 6, 12], [0, 6, 12]), ([13], [13]), ([14], [14]), ([14], [14]), ([], []), ([17, 15, 13, 0, 1, 2, 3, 4, 5, 6, 7, 8, 9, 10, 11, 12, 13, 14, 15, 17], [15, 17]), ([16, 18, 0, 1, 2, 3, 4, 5, 6, 7, 8, 9, 10, 11, 12, 13, 14, 15, 16, 17, 18], [16])])
def swashplatelaw01_SpansValues.B11 : List Nat := [0, 0, 2, 0, 8, 30, 62, 0, 128, 0, 512, 1920, 3968, 8191, 16383, 32767, 32767, 0, 196607, 524287]
theorem swashplatelaw01_SpansValues.tab11 : rtab .any (opsOf Try.f6 11) = swashplatelaw01_SpansValues.T11 := by kernel_rfl
theorem swashplatelaw01_SpansValues.bits11 : waitsOk swashplatelaw01_SpansValues.T11.2 swashplatelaw01_SpansValues.B11 = true := by kernel_rfl
set_option maxHeartbeats 8000000 in
set_option maxRecDepth 100000 in
theorem swashplatelaw01_SpansValues.calls (k : Nat) (A0_0 : Option Addr) (c0_0 : Nat) (l0_0 : List Int) (A0_1 : Option Addr) (c0_1 : Nat) (l0_1 : List Int) (A0_2 : Option Addr) (c0_2 : Nat) (l0_2 : List (List Int)) (a1_0 : Int) (a1_1 : Int) (a2_0 : Int) (a2_1 : Int) (r : Bool) (w : World) (hr0_0 : Kd.C (Kd.int .i64) w A0_0 l0_0.length l0_0) (hc0_0 : l0_0.length ≤ c0_0) (hr0_1 : Kd.C (Kd.int .i64) w A0_1 l0_1.length l0_1) (hc0_1 : l0_1.length ≤ c0_1) (hr0_2 : Kd.C (Kd.slice 3 (Kd.int .i64)) w A0_2 l0_2.length l0_2) (hc0_2 : l0_2.length ≤ c0_2) (h : swashplatelaw01_SpansValues.f k l0_0 l0_1 l0_2 a1_0 a1_1 a2_0 a2_1 = some r) (hrT : Aside0 (r = true)) :
    Calls Try.prog 6 #[.agg #[.slice A0_0 l0_0.length c0_0, .slice A0_1 l0_1.length c0_1, .slice A0_2 l0_2.length c0_2], .agg #[.int .i64 a1_0, .int .i64 a1_1], .agg #[.int .i64 a2_0, .int .i64 a2_1]] w fun e w' => e = .returned (.bool r) ∧ Below w.heap.size w w' := by
  have hu25 := Try.underlying25
  have hu50 := Try.underlying50
  have hu28 := Try.underlying28
  have hu27 := Try.underlying27
  have HR0_0 := Aside0.mk hr0_0
  have HC0_0 := Aside0.mk hc0_0
  clear hr0_0 hc0_0
  have HR0_1 := Aside0.mk hr0_1
  have HC0_1 := Aside0.mk hc0_1
  clear hr0_1 hc0_1
  have HR0_2 := Aside0.mk hr0_2
  have HC0_2 := Aside0.mk hc0_2
  clear hr0_2 hc0_2
  have HB := Aside0.mk (Below.refl w.heap.size w)
  have H : ((swashplatelaw01_Far.f k l0_0 l0_1 l0_2).bind fun t918 => (if t918 = true then ((swashplatelaw01_works.f k).bind fun t919 => (some t919)) else ((swashplateref01_Copy.f k l0_0 l0_1 l0_2).bind fun bt920 => ((spans_At.f k bt920.1 bt920.2.1 bt920.2.2 a1_0 a1_1).bind fun bt930 => ((swashplateref01_At.f k l0_0 l0_1 l0_2 a1_0 a1_1).bind fun bt934 => (if (!(bt930.1 == bt934.1) || (!(bt930.2.1 == bt934.2.1))) = true then (swashplatelaw01_SpansValues.j0 k true l0_0 l0_1 l0_2 a2_0 a2_1 bt920.1 bt920.2.1 bt920.2.2) else (if bt930.2.2 = bt934.2.2 then ((swashplatelaw01_sameTable.f k bt920.1 bt920.2.1 bt920.2.2 l0_0 l0_1 l0_2).bind fun t938 => (swashplatelaw01_SpansValues.j0 k (!t938) l0_0 l0_1 l0_2 a2_0 a2_1 bt920.1 bt920.2.1 bt920.2.2)) else (swashplatelaw01_SpansValues.j0 k true l0_0 l0_1 l0_2 a2_0 a2_1 bt920.1 bt920.2.1 bt920.2.2)))))))) = some r := h
  clear h
  replace H := Option.bind_eq_some_iff.mp H
  obtain ⟨t918, A40, H⟩ := H
  replace H : (if t918 = true then ((swashplatelaw01_works.f k).bind fun t919 => (some t919)) else ((swashplateref01_Copy.f k l0_0 l0_1 l0_2).bind fun bt920 => ((spans_At.f k bt920.1 bt920.2.1 bt920.2.2 a1_0 a1_1).bind fun bt930 => ((swashplateref01_At.f k l0_0 l0_1 l0_2 a1_0 a1_1).bind fun bt934 => (if (!(bt930.1 == bt934.1) || (!(bt930.2.1 == bt934.2.1))) = true then (swashplatelaw01_SpansValues.j0 k true l0_0 l0_1 l0_2 a2_0 a2_1 bt920.1 bt920.2.1 bt920.2.2) else (if bt930.2.2 = bt934.2.2 then ((swashplatelaw01_sameTable.f k bt920.1 bt920.2.1 bt920.2.2 l0_0 l0_1 l0_2).bind fun t938 => (swashplatelaw01_SpansValues.j0 k (!t938) l0_0 l0_1 l0_2 a2_0 a2_1 bt920.1 bt920.2.1 bt920.2.2)) else (swashplatelaw01_SpansValues.j0 k true l0_0 l0_1 l0_2 a2_0 a2_1 bt920.1 bt920.2.1 bt920.2.2))))))) = some r := H
  have A4 := Aside0.mk A40
  clear A40
  by_cases c5 : t918 = true
  · subst c5
    have H1 : ((swashplatelaw01_works.f k).bind fun t919 => (some t919)) = some r := by rw [if_pos rfl] at H; exact H
    clear H
    have H := H1
    clear H1
    replace H := Option.bind_eq_some_iff.mp H
    obtain ⟨t919, A60, H⟩ := H
    replace H : (some t919) = some r := H
    have A6 := Aside0.mk A60
    clear A60
    obtain rfl := Option.some.inj H
    go_enter Try.func6, Try.ntmps6
    go_wp2_with (first | ((with_reducible refine gate_dst (N := 3) rfl ?_); (try (refine gate_guard (by rfl) ?_; dsimp only)); refine box_event ?hg (N := 3) ?hd (cs := #[.slice A0_0 l0_0.length c0_0, .slice A0_1 l0_1.length c0_1, .slice A0_2 l0_2.length c0_2]) (t := 25) ?hr ?_; (case hd => rfl); (case hg => rfl); (case hr => first | (go_simp; done) | (go_simp; rfl)); intro gb915 hg w7 hbox hb; have n0_ := Aside0.mk (below_step (bl_ HB.out) hb); have n1_ := Aside0.mk (hbox); have n2_ := Aside0.mk ((by rw [hg]; exact (below_size (bl_ HB.out)) : w.heap.size ≤ gb915)); have n3_ := Aside0.mk ((by rw [hg]; exact (below_size (bl_ HB.out)) : w.heap.size ≤ gb915)); clear HB; have HB := n0_; have BK915 := n1_; have GW915 := n2_; have GE915 := n3_; clear n0_ n1_ n2_ n3_; clear hb hbox hg) | ((with_reducible refine gate_dst (N := 4) rfl ?_); (try (refine gate_guard (by rfl) ?_; dsimp only)); refine box_event ?hg (N := 4) ?hd (cs := #[.int .i64 a1_0, .int .i64 a1_1]) (t := 50) ?hr ?_; (case hd => rfl); (case hg => rfl); (case hr => first | (go_simp; done) | (go_simp; rfl)); intro gb916 hg w8 hbox hb; have n0_ := Aside0.mk (blk_below (g := gb915) (o := .cells #[.slice A0_0 l0_0.length c0_0, .slice A0_1 l0_1.length c0_1, .slice A0_2 l0_2.length c0_2] 25 (0, 0)) (bk_ BK915.out) hb); have n1_ := Aside0.mk (below_step (bl_ HB.out) hb); have n2_ := Aside0.mk (hbox); have n3_ := Aside0.mk ((by rw [hg]; exact (below_size (bl_ HB.out)) : w.heap.size ≤ gb916)); have n4_ := Aside0.mk ((by rw [hg]; exact (below_size (bl_ HB.out)) : w.heap.size ≤ gb916)); have n5_ := Aside0.mk ((by rw [hg]; exact Nat.ne_of_lt (blk_lt (g := gb915) (o := .cells #[.slice A0_0 l0_0.length c0_0, .slice A0_1 l0_1.length c0_1, .slice A0_2 l0_2.length c0_2] 25 (0, 0)) (bk_ BK915.out)) : gb915 ≠ gb916)); have n6_ := Aside0.mk ((by rw [hg]; exact Nat.ne_of_gt (blk_lt (g := gb915) (o := .cells #[.slice A0_0 l0_0.length c0_0, .slice A0_1 l0_1.length c0_1, .slice A0_2 l0_2.length c0_2] 25 (0, 0)) (bk_ BK915.out)) : gb916 ≠ gb915)); clear BK915; clear HB; have BK915 := n0_; have HB := n1_; have BK916 := n2_; have GW916 := n3_; have GE916 := n4_; have NB915_916 := n5_; have NB916_915 := n6_; clear n0_ n1_ n2_ n3_ n4_ n5_ n6_; clear hb hbox hg) | ((with_reducible refine gate_dst (N := 5) rfl ?_); (try (refine gate_guard (by rfl) ?_; dsimp only)); refine box_event ?hg (N := 5) ?hd (cs := #[.int .i64 a2_0, .int .i64 a2_1]) (t := 28) ?hr ?_; (case hd => rfl); (case hg => rfl); (case hr => first | (go_simp; done) | (go_simp; rfl)); intro gb917 hg w9 hbox hb; have n0_ := Aside0.mk (blk_below (g := gb915) (o := .cells #[.slice A0_0 l0_0.length c0_0, .slice A0_1 l0_1.length c0_1, .slice A0_2 l0_2.length c0_2] 25 (0, 0)) (bk_ BK915.out) hb); have n1_ := Aside0.mk (blk_below (g := gb916) (o := .cells #[.int .i64 a1_0, .int .i64 a1_1] 50 (0, 0)) (bk_ BK916.out) hb); have n2_ := Aside0.mk (below_step (bl_ HB.out) hb); have n3_ := Aside0.mk (hbox); have n4_ := Aside0.mk ((by rw [hg]; exact (below_size (bl_ HB.out)) : w.heap.size ≤ gb917)); have n5_ := Aside0.mk ((by rw [hg]; exact (below_size (bl_ HB.out)) : w.heap.size ≤ gb917)); have n6_ := Aside0.mk ((by rw [hg]; exact Nat.ne_of_lt (blk_lt (g := gb915) (o := .cells #[.slice A0_0 l0_0.length c0_0, .slice A0_1 l0_1.length c0_1, .slice A0_2 l0_2.length c0_2] 25 (0, 0)) (bk_ BK915.out)) : gb915 ≠ gb917)); have n7_ := Aside0.mk ((by rw [hg]; exact Nat.ne_of_gt (blk_lt (g := gb915) (o := .cells #[.slice A0_0 l0_0.length c0_0, .slice A0_1 l0_1.length c0_1, .slice A0_2 l0_2.length c0_2] 25 (0, 0)) (bk_ BK915.out)) : gb917 ≠ gb915)); have n8_ := Aside0.mk ((by rw [hg]; exact Nat.ne_of_lt (blk_lt (g := gb916) (o := .cells #[.int .i64 a1_0, .int .i64 a1_1] 50 (0, 0)) (bk_ BK916.out)) : gb916 ≠ gb917)); have n9_ := Aside0.mk ((by rw [hg]; exact Nat.ne_of_gt (blk_lt (g := gb916) (o := .cells #[.int .i64 a1_0, .int .i64 a1_1] 50 (0, 0)) (bk_ BK916.out)) : gb917 ≠ gb916)); clear BK915; clear BK916; clear HB; have BK915 := n0_; have BK916 := n1_; have HB := n2_; have BK917 := n3_; have GW917 := n4_; have GE917 := n5_; have NB915_917 := n6_; have NB917_915 := n7_; have NB916_917 := n8_; have NB917_916 := n9_; clear n0_ n1_ n2_ n3_ n4_ n5_ n6_ n7_ n8_ n9_; clear hb hbox hg; have hnb10 := NB915_916.out; have hnc10 := NB916_915.out; have hnb11 := NB915_917.out; have hnc11 := NB917_915.out; have hcz12_0 : w9.cell? ⟨gb915, 0, none⟩ = some (.slice A0_0 l0_0.length c0_0) := (blk_cell BK915.out 0).trans rfl; have hcz12_1 : w9.cell? ⟨gb915, 1, none⟩ = some (.slice A0_1 l0_1.length c0_1) := (blk_cell BK915.out 1).trans rfl; have hcz12_2 : w9.cell? ⟨gb915, 2, none⟩ = some (.slice A0_2 l0_2.length c0_2) := (blk_cell BK915.out 2).trans rfl; have hfz12_0 := blk_frozen BK915.out 0; have hfz12_1 := blk_frozen BK915.out 1; have hfz12_2 := blk_frozen BK915.out 2) | ((with_reducible refine gate_callee (f := 20) rfl ?_); refine goesL_ (some 16) rfl rfl Try.func20 (by kernel_rfl) rfl #[.agg #[.slice A0_0 l0_0.length c0_0, .slice A0_1 l0_1.length c0_1, .slice A0_2 l0_2.length c0_2]] rfl (by (try simp only [List.map_toArray, List.map_cons, List.map_nil]); first | done | rfl | (simp only [List.length_drop, List.length_take]; rfl)) ?_; (with_reducible refine (swashplatelaw01_Far.calls k _ _ l0_0 _ _ l0_1 _ _ l0_2 true _ ?side1 ?side2 ?side3 ?side4 ?side5 ?side6 A4.out).mono ?_); (case side1 => exact cr_ (Kd.C_below HR0_0.out HB.out)); (case side2 => exact HC0_0.out); (case side3 => exact cr_ (Kd.C_below HR0_1.out HB.out)); (case side4 => exact HC0_1.out); (case side5 => exact cr_ (Kd.C_below HR0_2.out HB.out)); (case side6 => exact HC0_2.out); rintro e w13 ⟨rfl, hb⟩; refine ⟨_, rfl, ?_⟩; have n0_ := Aside0.mk (blk_below (g := gb915) (o := .cells #[.slice A0_0 l0_0.length c0_0, .slice A0_1 l0_1.length c0_1, .slice A0_2 l0_2.length c0_2] 25 (0, 0)) (bk_ BK915.out) hb); have n1_ := Aside0.mk (blk_below (g := gb916) (o := .cells #[.int .i64 a1_0, .int .i64 a1_1] 50 (0, 0)) (bk_ BK916.out) hb); have n2_ := Aside0.mk (blk_below (g := gb917) (o := .cells #[.int .i64 a2_0, .int .i64 a2_1] 28 (0, 0)) (bk_ BK917.out) hb); have n3_ := Aside0.mk (below_step (bl_ HB.out) hb); clear BK915; clear BK916; clear BK917; clear HB; have BK915 := n0_; have BK916 := n1_; have BK917 := n2_; have HB := n3_; clear n0_ n1_ n2_ n3_; (try clear hb); (try clear hb2); (try clear hk); (try clear hi)) | ((with_reducible refine gate_callee (f := 22) rfl ?_); refine goesL_ (some 17) rfl rfl Try.func22 (by kernel_rfl) rfl #[] rfl (by (try simp only [List.map_toArray, List.map_cons, List.map_nil]); first | done | rfl | (simp only [List.length_drop, List.length_take]; rfl)) ?_; (with_reducible refine (swashplatelaw01_works.calls k  t919 _ A6.out).mono ?_); rintro e w14 ⟨rfl, hb⟩; refine ⟨_, rfl, ?_⟩; have n0_ := Aside0.mk (blk_below (g := gb915) (o := .cells #[.slice A0_0 l0_0.length c0_0, .slice A0_1 l0_1.length c0_1, .slice A0_2 l0_2.length c0_2] 25 (0, 0)) (bk_ BK915.out) hb); have n1_ := Aside0.mk (blk_below (g := gb916) (o := .cells #[.int .i64 a1_0, .int .i64 a1_1] 50 (0, 0)) (bk_ BK916.out) hb); have n2_ := Aside0.mk (blk_below (g := gb917) (o := .cells #[.int .i64 a2_0, .int .i64 a2_1] 28 (0, 0)) (bk_ BK917.out) hb); have n3_ := Aside0.mk (below_step (bl_ HB.out) hb); clear BK915; clear BK916; clear BK917; clear HB; have BK915 := n0_; have BK916 := n1_; have BK917 := n2_; have HB := n3_; clear n0_ n1_ n2_ n3_; (try clear hb); (try clear hb2); (try clear hk); (try clear hi)))
    go_ret
    exact ⟨by first | rfl | (simp [errW_none, errW_some] <;> rfl) | (simp [*, errW_none, errW_some] <;> rfl), bl_ HB.out⟩
  · replace c5 := Bool.eq_false_iff.mpr c5
    subst c5
    have H1 : ((swashplateref01_Copy.f k l0_0 l0_1 l0_2).bind fun bt920 => ((spans_At.f k bt920.1 bt920.2.1 bt920.2.2 a1_0 a1_1).bind fun bt930 => ((swashplateref01_At.f k l0_0 l0_1 l0_2 a1_0 a1_1).bind fun bt934 => (if (!(bt930.1 == bt934.1) || (!(bt930.2.1 == bt934.2.1))) = true then (swashplatelaw01_SpansValues.j0 k true l0_0 l0_1 l0_2 a2_0 a2_1 bt920.1 bt920.2.1 bt920.2.2) else (if bt930.2.2 = bt934.2.2 then ((swashplatelaw01_sameTable.f k bt920.1 bt920.2.1 bt920.2.2 l0_0 l0_1 l0_2).bind fun t938 => (swashplatelaw01_SpansValues.j0 k (!t938) l0_0 l0_1 l0_2 a2_0 a2_1 bt920.1 bt920.2.1 bt920.2.2)) else (swashplatelaw01_SpansValues.j0 k true l0_0 l0_1 l0_2 a2_0 a2_1 bt920.1 bt920.2.1 bt920.2.2)))))) = some r := by rw [if_neg (show ¬ (false = true) by decide)] at H; exact H
    clear H
    have H := H1
    clear H1
    replace H := Option.bind_eq_some_iff.mp H
    obtain ⟨⟨t920, t923, t926⟩, A150, H⟩ := H
    replace H : ((spans_At.f k t920 t923 t926 a1_0 a1_1).bind fun bt930 => ((swashplateref01_At.f k l0_0 l0_1 l0_2 a1_0 a1_1).bind fun bt934 => (if (!(bt930.1 == bt934.1) || (!(bt930.2.1 == bt934.2.1))) = true then (swashplatelaw01_SpansValues.j0 k true l0_0 l0_1 l0_2 a2_0 a2_1 t920 t923 t926) else (if bt930.2.2 = bt934.2.2 then ((swashplatelaw01_sameTable.f k t920 t923 t926 l0_0 l0_1 l0_2).bind fun t938 => (swashplatelaw01_SpansValues.j0 k (!t938) l0_0 l0_1 l0_2 a2_0 a2_1 t920 t923 t926)) else (swashplatelaw01_SpansValues.j0 k true l0_0 l0_1 l0_2 a2_0 a2_1 t920 t923 t926))))) = some r := H
    have A15 := Aside0.mk A150
    clear A150
    replace H := Option.bind_eq_some_iff.mp H
    obtain ⟨⟨t930, t931, t932⟩, A160, H⟩ := H
    replace H : ((swashplateref01_At.f k l0_0 l0_1 l0_2 a1_0 a1_1).bind fun bt934 => (if (!(t930 == bt934.1) || (!(t931 == bt934.2.1))) = true then (swashplatelaw01_SpansValues.j0 k true l0_0 l0_1 l0_2 a2_0 a2_1 t920 t923 t926) else (if t932 = bt934.2.2 then ((swashplatelaw01_sameTable.f k t920 t923 t926 l0_0 l0_1 l0_2).bind fun t938 => (swashplatelaw01_SpansValues.j0 k (!t938) l0_0 l0_1 l0_2 a2_0 a2_1 t920 t923 t926)) else (swashplatelaw01_SpansValues.j0 k true l0_0 l0_1 l0_2 a2_0 a2_1 t920 t923 t926)))) = some r := H
    have A16 := Aside0.mk A160
    clear A160
    replace H := Option.bind_eq_some_iff.mp H
    obtain ⟨⟨t934, t935, t936⟩, A170, H⟩ := H
    replace H : (if (!(t930 == t934) || (!(t931 == t935))) = true then (swashplatelaw01_SpansValues.j0 k true l0_0 l0_1 l0_2 a2_0 a2_1 t920 t923 t926) else (if t932 = t936 then ((swashplatelaw01_sameTable.f k t920 t923 t926 l0_0 l0_1 l0_2).bind fun t938 => (swashplatelaw01_SpansValues.j0 k (!t938) l0_0 l0_1 l0_2 a2_0 a2_1 t920 t923 t926)) else (swashplatelaw01_SpansValues.j0 k true l0_0 l0_1 l0_2 a2_0 a2_1 t920 t923 t926))) = some r := H
    have A17 := Aside0.mk A170
    clear A170
    have HC18 := Aside0.mk H
    clear H
    go_enter Try.func6, Try.ntmps6
    go_upto_region 6 with (first | ((with_reducible refine gate_dst (N := 3) rfl ?_); (try (refine gate_guard (by rfl) ?_; dsimp only)); refine box_event ?hg (N := 3) ?hd (cs := #[.slice A0_0 l0_0.length c0_0, .slice A0_1 l0_1.length c0_1, .slice A0_2 l0_2.length c0_2]) (t := 25) ?hr ?_; (case hd => rfl); (case hg => rfl); (case hr => first | (go_simp; done) | (go_simp; rfl)); intro gb915 hg w19 hbox hb; have n0_ := Aside0.mk (below_step (bl_ HB.out) hb); have n1_ := Aside0.mk (hbox); have n2_ := Aside0.mk ((by rw [hg]; exact (below_size (bl_ HB.out)) : w.heap.size ≤ gb915)); have n3_ := Aside0.mk ((by rw [hg]; exact (below_size (bl_ HB.out)) : w.heap.size ≤ gb915)); clear HB; have HB := n0_; have BK915 := n1_; have GW915 := n2_; have GE915 := n3_; clear n0_ n1_ n2_ n3_; clear hb hbox hg) | ((with_reducible refine gate_dst (N := 4) rfl ?_); (try (refine gate_guard (by rfl) ?_; dsimp only)); refine box_event ?hg (N := 4) ?hd (cs := #[.int .i64 a1_0, .int .i64 a1_1]) (t := 50) ?hr ?_; (case hd => rfl); (case hg => rfl); (case hr => first | (go_simp; done) | (go_simp; rfl)); intro gb916 hg w20 hbox hb; have n0_ := Aside0.mk (blk_below (g := gb915) (o := .cells #[.slice A0_0 l0_0.length c0_0, .slice A0_1 l0_1.length c0_1, .slice A0_2 l0_2.length c0_2] 25 (0, 0)) (bk_ BK915.out) hb); have n1_ := Aside0.mk (below_step (bl_ HB.out) hb); have n2_ := Aside0.mk (hbox); have n3_ := Aside0.mk ((by rw [hg]; exact (below_size (bl_ HB.out)) : w.heap.size ≤ gb916)); have n4_ := Aside0.mk ((by rw [hg]; exact (below_size (bl_ HB.out)) : w.heap.size ≤ gb916)); have n5_ := Aside0.mk ((by rw [hg]; exact Nat.ne_of_lt (blk_lt (g := gb915) (o := .cells #[.slice A0_0 l0_0.length c0_0, .slice A0_1 l0_1.length c0_1, .slice A0_2 l0_2.length c0_2] 25 (0, 0)) (bk_ BK915.out)) : gb915 ≠ gb916)); have n6_ := Aside0.mk ((by rw [hg]; exact Nat.ne_of_gt (blk_lt (g := gb915) (o := .cells #[.slice A0_0 l0_0.length c0_0, .slice A0_1 l0_1.length c0_1, .slice A0_2 l0_2.length c0_2] 25 (0, 0)) (bk_ BK915.out)) : gb916 ≠ gb915)); clear BK915; clear HB; have BK915 := n0_; have HB := n1_; have BK916 := n2_; have GW916 := n3_; have GE916 := n4_; have NB915_916 := n5_; have NB916_915 := n6_; clear n0_ n1_ n2_ n3_ n4_ n5_ n6_; clear hb hbox hg) | ((with_reducible refine gate_dst (N := 5) rfl ?_); (try (refine gate_guard (by rfl) ?_; dsimp only)); refine box_event ?hg (N := 5) ?hd (cs := #[.int .i64 a2_0, .int .i64 a2_1]) (t := 28) ?hr ?_; (case hd => rfl); (case hg => rfl); (case hr => first | (go_simp; done) | (go_simp; rfl)); intro gb917 hg w21 hbox hb; have n0_ := Aside0.mk (blk_below (g := gb915) (o := .cells #[.slice A0_0 l0_0.length c0_0, .slice A0_1 l0_1.length c0_1, .slice A0_2 l0_2.length c0_2] 25 (0, 0)) (bk_ BK915.out) hb); have n1_ := Aside0.mk (blk_below (g := gb916) (o := .cells #[.int .i64 a1_0, .int .i64 a1_1] 50 (0, 0)) (bk_ BK916.out) hb); have n2_ := Aside0.mk (below_step (bl_ HB.out) hb); have n3_ := Aside0.mk (hbox); have n4_ := Aside0.mk ((by rw [hg]; exact (below_size (bl_ HB.out)) : w.heap.size ≤ gb917)); have n5_ := Aside0.mk ((by rw [hg]; exact (below_size (bl_ HB.out)) : w.heap.size ≤ gb917)); have n6_ := Aside0.mk ((by rw [hg]; exact Nat.ne_of_lt (blk_lt (g := gb915) (o := .cells #[.slice A0_0 l0_0.length c0_0, .slice A0_1 l0_1.length c0_1, .slice A0_2 l0_2.length c0_2] 25 (0, 0)) (bk_ BK915.out)) : gb915 ≠ gb917)); have n7_ := Aside0.mk ((by rw [hg]; exact Nat.ne_of_gt (blk_lt (g := gb915) (o := .cells #[.slice A0_0 l0_0.length c0_0, .slice A0_1 l0_1.length c0_1, .slice A0_2 l0_2.length c0_2] 25 (0, 0)) (bk_ BK915.out)) : gb917 ≠ gb915)); have n8_ := Aside0.mk ((by rw [hg]; exact Nat.ne_of_lt (blk_lt (g := gb916) (o := .cells #[.int .i64 a1_0, .int .i64 a1_1] 50 (0, 0)) (bk_ BK916.out)) : gb916 ≠ gb917)); have n9_ := Aside0.mk ((by rw [hg]; exact Nat.ne_of_gt (blk_lt (g := gb916) (o := .cells #[.int .i64 a1_0, .int .i64 a1_1] 50 (0, 0)) (bk_ BK916.out)) : gb917 ≠ gb916)); clear BK915; clear BK916; clear HB; have BK915 := n0_; have BK916 := n1_; have HB := n2_; have BK917 := n3_; have GW917 := n4_; have GE917 := n5_; have NB915_917 := n6_; have NB917_915 := n7_; have NB916_917 := n8_; have NB917_916 := n9_; clear n0_ n1_ n2_ n3_ n4_ n5_ n6_ n7_ n8_ n9_; clear hb hbox hg; have hnb22 := NB915_916.out; have hnc22 := NB916_915.out; have hnb23 := NB915_917.out; have hnc23 := NB917_915.out; have hcz24_0 : w21.cell? ⟨gb915, 0, none⟩ = some (.slice A0_0 l0_0.length c0_0) := (blk_cell BK915.out 0).trans rfl; have hcz24_1 : w21.cell? ⟨gb915, 1, none⟩ = some (.slice A0_1 l0_1.length c0_1) := (blk_cell BK915.out 1).trans rfl; have hcz24_2 : w21.cell? ⟨gb915, 2, none⟩ = some (.slice A0_2 l0_2.length c0_2) := (blk_cell BK915.out 2).trans rfl; have hfz24_0 := blk_frozen BK915.out 0; have hfz24_1 := blk_frozen BK915.out 1; have hfz24_2 := blk_frozen BK915.out 2) | ((with_reducible refine gate_callee (f := 20) rfl ?_); refine goesL_ (some 16) rfl rfl Try.func20 (by kernel_rfl) rfl #[.agg #[.slice A0_0 l0_0.length c0_0, .slice A0_1 l0_1.length c0_1, .slice A0_2 l0_2.length c0_2]] rfl (by (try simp only [List.map_toArray, List.map_cons, List.map_nil]); first | done | rfl | (simp only [List.length_drop, List.length_take]; rfl)) ?_; (with_reducible refine (swashplatelaw01_Far.calls k _ _ l0_0 _ _ l0_1 _ _ l0_2 false _ ?side1 ?side2 ?side3 ?side4 ?side5 ?side6 A4.out).mono ?_); (case side1 => exact cr_ (Kd.C_below HR0_0.out HB.out)); (case side2 => exact HC0_0.out); (case side3 => exact cr_ (Kd.C_below HR0_1.out HB.out)); (case side4 => exact HC0_1.out); (case side5 => exact cr_ (Kd.C_below HR0_2.out HB.out)); (case side6 => exact HC0_2.out); rintro e w25 ⟨rfl, hb⟩; refine ⟨_, rfl, ?_⟩; have n0_ := Aside0.mk (blk_below (g := gb915) (o := .cells #[.slice A0_0 l0_0.length c0_0, .slice A0_1 l0_1.length c0_1, .slice A0_2 l0_2.length c0_2] 25 (0, 0)) (bk_ BK915.out) hb); have n1_ := Aside0.mk (blk_below (g := gb916) (o := .cells #[.int .i64 a1_0, .int .i64 a1_1] 50 (0, 0)) (bk_ BK916.out) hb); have n2_ := Aside0.mk (blk_below (g := gb917) (o := .cells #[.int .i64 a2_0, .int .i64 a2_1] 28 (0, 0)) (bk_ BK917.out) hb); have n3_ := Aside0.mk (below_step (bl_ HB.out) hb); clear BK915; clear BK916; clear BK917; clear HB; have BK915 := n0_; have BK916 := n1_; have BK917 := n2_; have HB := n3_; clear n0_ n1_ n2_ n3_; (try clear hb); (try clear hb2); (try clear hk); (try clear hi); have hcz26_0 : w25.cell? ⟨gb915, 0, none⟩ = some (.slice A0_0 l0_0.length c0_0) := (blk_cell BK915.out 0).trans rfl; have hcz26_1 : w25.cell? ⟨gb915, 1, none⟩ = some (.slice A0_1 l0_1.length c0_1) := (blk_cell BK915.out 1).trans rfl; have hcz26_2 : w25.cell? ⟨gb915, 2, none⟩ = some (.slice A0_2 l0_2.length c0_2) := (blk_cell BK915.out 2).trans rfl; have hfz26_0 := blk_frozen BK915.out 0; have hfz26_1 := blk_frozen BK915.out 1; have hfz26_2 := blk_frozen BK915.out 2) | ((with_reducible refine gate_callee (f := 24) rfl ?_); refine goesL_ (some 19) rfl rfl Try.func24 (by kernel_rfl) rfl #[.agg #[.slice A0_0 l0_0.length c0_0, .slice A0_1 l0_1.length c0_1, .slice A0_2 l0_2.length c0_2]] rfl (by (try simp only [List.map_toArray, List.map_cons, List.map_nil]); first | done | rfl | (simp only [List.length_drop, List.length_take]; rfl)) ?_; (with_reducible refine (swashplateref01_Copy.calls k _ _ l0_0 _ _ l0_1 _ _ l0_2 t920 t923 t926 _ ?side1 ?side2 ?side3 ?side4 ?side5 ?side6 A15.out).mono ?_); (case side1 => exact cr_ (Kd.C_below HR0_0.out HB.out)); (case side2 => exact HC0_0.out); (case side3 => exact cr_ (Kd.C_below HR0_1.out HB.out)); (case side4 => exact HC0_1.out); (case side5 => exact cr_ (Kd.C_below HR0_2.out HB.out)); (case side6 => exact HC0_2.out); rintro e w27 ⟨v921, v924, v927, rfl, ho0, ho1, ho2, hb⟩; refine ⟨_, rfl, ?_⟩; have n0_ := Aside0.mk (Kd.R_lower ho0 (below_size (bl_ HB.out))); have n1_ := Aside0.mk (Kd.R_lower ho1 (below_size (bl_ HB.out))); have n2_ := Aside0.mk (Kd.S_lower ho2 (below_size (bl_ HB.out))); have n3_ := Aside0.mk (blk_below (g := gb915) (o := .cells #[.slice A0_0 l0_0.length c0_0, .slice A0_1 l0_1.length c0_1, .slice A0_2 l0_2.length c0_2] 25 (0, 0)) (bk_ BK915.out) hb); have n4_ := Aside0.mk (blk_below (g := gb916) (o := .cells #[.int .i64 a1_0, .int .i64 a1_1] 50 (0, 0)) (bk_ BK916.out) hb); have n5_ := Aside0.mk (blk_below (g := gb917) (o := .cells #[.int .i64 a2_0, .int .i64 a2_1] 28 (0, 0)) (bk_ BK917.out) hb); have n6_ := Aside0.mk (below_step (bl_ HB.out) hb); clear BK915; clear BK916; clear BK917; clear HB; have HO922 := n0_; have HO925 := n1_; have HO928 := n2_; have BK915 := n3_; have BK916 := n4_; have BK917 := n5_; have HB := n6_; clear n0_ n1_ n2_ n3_ n4_ n5_ n6_; (try clear hb); (try clear hb2); (try clear hk); (try clear hi); (try clear ho0); (try clear ho1); (try clear ho2)) | ((with_reducible refine gate_dst (N := 7) rfl ?_); (try (refine gate_guard (by rfl) ?_; dsimp only)); refine box_event ?hg (N := 7) ?hd (cs := #[.slice none 0 0, .slice none 0 0, .slice none 0 0]) (t := 25) ?hr ?_; (case hd => rfl); (case hg => rfl); (case hr => first | (go_simp; done) | (go_simp; rfl)); intro gb929 hg w28 hbox hb; have n0_ := Aside0.mk (Kd.R_below (by (with_reducible repeat (first | apply Kd.R_alloc | apply Kd.R_drewN | apply Kd.R_drew)); exact HO922.out) hb); have n1_ := Aside0.mk (Kd.R_below (by (with_reducible repeat (first | apply Kd.R_alloc | apply Kd.R_drewN | apply Kd.R_drew)); exact HO925.out) hb); have n2_ := Aside0.mk (Kd.S_below (by (with_reducible repeat (first | apply Kd.S_alloc | apply Kd.S_drewN | apply Kd.S_drew)); exact HO928.out) hb); have n3_ := Aside0.mk (blk_below (g := gb915) (o := .cells #[.slice A0_0 l0_0.length c0_0, .slice A0_1 l0_1.length c0_1, .slice A0_2 l0_2.length c0_2] 25 (0, 0)) (bk_ BK915.out) hb); have n4_ := Aside0.mk (blk_below (g := gb916) (o := .cells #[.int .i64 a1_0, .int .i64 a1_1] 50 (0, 0)) (bk_ BK916.out) hb); have n5_ := Aside0.mk (blk_below (g := gb917) (o := .cells #[.int .i64 a2_0, .int .i64 a2_1] 28 (0, 0)) (bk_ BK917.out) hb); have n6_ := Aside0.mk (below_step (bl_ HB.out) hb); have n7_ := Aside0.mk (hbox); have n8_ := Aside0.mk ((by rw [hg]; exact (below_size (bl_ HB.out)) : w.heap.size ≤ gb929)); have n9_ := Aside0.mk ((by rw [hg]; exact (below_size (bl_ HB.out)) : w.heap.size ≤ gb929)); have n10_ := Aside0.mk ((by rw [hg]; exact Nat.ne_of_lt (blk_lt (g := gb915) (o := .cells #[.slice A0_0 l0_0.length c0_0, .slice A0_1 l0_1.length c0_1, .slice A0_2 l0_2.length c0_2] 25 (0, 0)) (bk_ BK915.out)) : gb915 ≠ gb929)); have n11_ := Aside0.mk ((by rw [hg]; exact Nat.ne_of_gt (blk_lt (g := gb915) (o := .cells #[.slice A0_0 l0_0.length c0_0, .slice A0_1 l0_1.length c0_1, .slice A0_2 l0_2.length c0_2] 25 (0, 0)) (bk_ BK915.out)) : gb929 ≠ gb915)); have n12_ := Aside0.mk ((by rw [hg]; exact Nat.ne_of_lt (blk_lt (g := gb916) (o := .cells #[.int .i64 a1_0, .int .i64 a1_1] 50 (0, 0)) (bk_ BK916.out)) : gb916 ≠ gb929)); have n13_ := Aside0.mk ((by rw [hg]; exact Nat.ne_of_gt (blk_lt (g := gb916) (o := .cells #[.int .i64 a1_0, .int .i64 a1_1] 50 (0, 0)) (bk_ BK916.out)) : gb929 ≠ gb916)); have n14_ := Aside0.mk ((by rw [hg]; exact Nat.ne_of_lt (blk_lt (g := gb917) (o := .cells #[.int .i64 a2_0, .int .i64 a2_1] 28 (0, 0)) (bk_ BK917.out)) : gb917 ≠ gb929)); have n15_ := Aside0.mk ((by rw [hg]; exact Nat.ne_of_gt (blk_lt (g := gb917) (o := .cells #[.int .i64 a2_0, .int .i64 a2_1] 28 (0, 0)) (bk_ BK917.out)) : gb929 ≠ gb917)); clear HO922; clear HO925; clear HO928; clear BK915; clear BK916; clear BK917; clear HB; have HO922 := n0_; have HO925 := n1_; have HO928 := n2_; have BK915 := n3_; have BK916 := n4_; have BK917 := n5_; have HB := n6_; have BK929 := n7_; have GW929 := n8_; have GE929 := n9_; have NB915_929 := n10_; have NB929_915 := n11_; have NB916_929 := n12_; have NB929_916 := n13_; have NB917_929 := n14_; have NB929_917 := n15_; clear n0_ n1_ n2_ n3_ n4_ n5_ n6_ n7_ n8_ n9_ n10_ n11_ n12_ n13_ n14_ n15_; clear hb hbox hg; obtain ⟨Ao29, co29, eo29⟩ := Kd.R_slice HO922.out; subst eo29; have hnb30 := NB929_915.out; have hnc30 := NB915_929.out; have hnb31 := NB929_916.out; have hnc31 := NB916_929.out; have hnb32 := NB929_917.out; have hnc32 := NB917_929.out; have hcz33_0 : w28.cell? ⟨gb929, 0, none⟩ = some (.slice none 0 0) := (blk_cell BK929.out 0).trans rfl; have hcz33_1 : w28.cell? ⟨gb929, 1, none⟩ = some (.slice none 0 0) := (blk_cell BK929.out 1).trans rfl; have hcz33_2 : w28.cell? ⟨gb929, 2, none⟩ = some (.slice none 0 0) := (blk_cell BK929.out 2).trans rfl; have hfz33_0 := blk_frozen BK929.out 0; have hfz33_1 := blk_frozen BK929.out 1; have hfz33_2 := blk_frozen BK929.out 2; obtain ⟨Ao34, co34, eo34⟩ := Kd.R_slice HO925.out; subst eo34; obtain ⟨Ao35, co35, eo35⟩ := Kd.S_slice HO928.out; subst eo35; have hnb36 := NB916_917.out; have hnc36 := NB917_916.out; have hcz37_0 : w28.cell? ⟨gb916, 0, none⟩ = some (.int .i64 a1_0) := (blk_cell BK916.out 0).trans rfl; have hcz37_1 : w28.cell? ⟨gb916, 1, none⟩ = some (.int .i64 a1_1) := (blk_cell BK916.out 1).trans rfl; have hfz37_0 := blk_frozen BK916.out 0; have hfz37_1 := blk_frozen BK916.out 1) | ((with_reducible refine gate_callee (f := 34) rfl ?_); refine goesL_ (some 26) rfl rfl Try.func34 (by kernel_rfl) rfl #[.agg #[.slice Ao29 t920.length co29, .slice Ao34 t923.length co34, .slice Ao35 t926.length co35], .int .i64 a1_0, .int .i64 a1_1] rfl (by (try simp only [List.map_toArray, List.map_cons, List.map_nil]); first | done | rfl | (simp only [List.length_drop, List.length_take]; rfl)) ?_; (with_reducible refine (spans_At.calls k _ _ t920 _ _ t923 _ _ t926 a1_0 a1_1 t930 t931 t932 _ ?side1 ?side2 ?side3 ?side4 ?side5 ?side6 A16.out).mono ?_); (case side1 => refine (Kd.R_reads' (e := 3) (base := w.heap.size) (ok := fun k_ => some k_ ≠ (.slice Ao34 t923.length co34 : Value).ownBlock) (n := t920.length) (c := co29) ?_).2.2; exact (by (with_reducible repeat (first | apply Kd.R_alloc | apply Kd.R_drewN | apply Kd.R_drew)); exact (Kd.R_mono (Kd.R_far (p := ⟨gb929, 2, none⟩) (Kd.R_far (p := ⟨gb929, 1, none⟩) (Kd.R_far (p := ⟨gb929, 0, none⟩) (Kd.R_types HO922.out BK929.out (by decide)) (fun _ hk => hk.2) (.slice Ao29 t920.length co29)) (fun _ hk => hk.2) (.slice Ao34 t923.length co34)) (fun _ hk => hk.2) (.slice Ao35 t926.length co35)) (fun _ h_ => h_.1)))); (case side2 => exact (Kd.R_reads' HO922.out).2.1); (case side3 => refine (Kd.R_reads' (e := 3) (base := w.heap.size) (ok := fun k_ => some k_ ≠ (.slice Ao29 t920.length co29 : Value).ownBlock) (n := t923.length) (c := co34) ?_).2.2; exact (by (with_reducible repeat (first | apply Kd.R_alloc | apply Kd.R_drewN | apply Kd.R_drew)); exact (Kd.R_mono (Kd.R_far (p := ⟨gb929, 2, none⟩) (Kd.R_far (p := ⟨gb929, 1, none⟩) (Kd.R_far (p := ⟨gb929, 0, none⟩) (Kd.R_types HO925.out BK929.out (by decide)) (fun _ hk => hk.2) (.slice Ao29 t920.length co29)) (fun _ hk => hk.2) (.slice Ao34 t923.length co34)) (fun _ hk => hk.2) (.slice Ao35 t926.length co35)) (fun _ h_ => h_.1)))); (case side4 => exact (Kd.R_reads' HO925.out).2.1); (case side5 => refine (Kd.S_reads' (e := 22) (base := w.heap.size) (ok := fun k_ => (some k_ ≠ (.slice Ao29 t920.length co29 : Value).ownBlock ∧ some k_ ≠ (.slice Ao34 t923.length co34 : Value).ownBlock)) (n := t926.length) (c := co35) ?_).2.2; exact (by (with_reducible repeat (first | apply Kd.S_alloc | apply Kd.S_drewN | apply Kd.S_drew)); exact (Kd.S_mono (Kd.S_far (p := ⟨gb929, 2, none⟩) (Kd.S_far (p := ⟨gb929, 1, none⟩) (Kd.S_far (p := ⟨gb929, 0, none⟩) (Kd.S_types HO928.out BK929.out (by decide)) (fun _ hk => hk.2) (.slice Ao29 t920.length co29)) (fun _ hk => hk.2) (.slice Ao34 t923.length co34)) (fun _ hk => hk.2) (.slice Ao35 t926.length co35)) (fun _ h_ => h_.1)))); (case side6 => exact (Kd.S_reads' HO928.out).2.1); rintro e w38 ⟨rfl, hb⟩; refine ⟨_, rfl, ?_⟩; have n0_ := Aside0.mk (Kd.R_below (by (with_reducible repeat (first | apply Kd.R_alloc | apply Kd.R_drewN | apply Kd.R_drew)); exact (Kd.R_mono (Kd.R_far (p := ⟨gb929, 2, none⟩) (Kd.R_far (p := ⟨gb929, 1, none⟩) (Kd.R_far (p := ⟨gb929, 0, none⟩) (Kd.R_types HO922.out BK929.out (by decide)) (fun _ hk => hk.2) (.slice Ao29 t920.length co29)) (fun _ hk => hk.2) (.slice Ao34 t923.length co34)) (fun _ hk => hk.2) (.slice Ao35 t926.length co35)) (fun _ h_ => h_.1))) hb); have n1_ := Aside0.mk (Kd.R_below (by (with_reducible repeat (first | apply Kd.R_alloc | apply Kd.R_drewN | apply Kd.R_drew)); exact (Kd.R_mono (Kd.R_far (p := ⟨gb929, 2, none⟩) (Kd.R_far (p := ⟨gb929, 1, none⟩) (Kd.R_far (p := ⟨gb929, 0, none⟩) (Kd.R_types HO925.out BK929.out (by decide)) (fun _ hk => hk.2) (.slice Ao29 t920.length co29)) (fun _ hk => hk.2) (.slice Ao34 t923.length co34)) (fun _ hk => hk.2) (.slice Ao35 t926.length co35)) (fun _ h_ => h_.1))) hb); have n2_ := Aside0.mk (Kd.S_below (by (with_reducible repeat (first | apply Kd.S_alloc | apply Kd.S_drewN | apply Kd.S_drew)); exact (Kd.S_mono (Kd.S_far (p := ⟨gb929, 2, none⟩) (Kd.S_far (p := ⟨gb929, 1, none⟩) (Kd.S_far (p := ⟨gb929, 0, none⟩) (Kd.S_types HO928.out BK929.out (by decide)) (fun _ hk => hk.2) (.slice Ao29 t920.length co29)) (fun _ hk => hk.2) (.slice Ao34 t923.length co34)) (fun _ hk => hk.2) (.slice Ao35 t926.length co35)) (fun _ h_ => h_.1))) hb); have n3_ := Aside0.mk (blk_below (g := gb915) (o := .cells #[.slice A0_0 l0_0.length c0_0, .slice A0_1 l0_1.length c0_1, .slice A0_2 l0_2.length c0_2] 25 (0, 0)) (by (with_reducible repeat (first | refine blk_drewN ?_ _ | refine blk_drew ?_ | refine blk_alloc ?_ _)); refine blk_far ?_ NB915_929.out _; (with_reducible repeat (first | refine blk_drewN ?_ _ | refine blk_drew ?_ | refine blk_alloc ?_ _)); refine blk_far ?_ NB915_929.out _; (with_reducible repeat (first | refine blk_drewN ?_ _ | refine blk_drew ?_ | refine blk_alloc ?_ _)); refine blk_far ?_ NB915_929.out _; (with_reducible repeat (first | refine blk_drewN ?_ _ | refine blk_drew ?_ | refine blk_alloc ?_ _)); exact BK915.out) hb); have n4_ := Aside0.mk (blk_below (g := gb916) (o := .cells #[.int .i64 a1_0, .int .i64 a1_1] 50 (0, 0)) (by (with_reducible repeat (first | refine blk_drewN ?_ _ | refine blk_drew ?_ | refine blk_alloc ?_ _)); refine blk_far ?_ NB916_929.out _; (with_reducible repeat (first | refine blk_drewN ?_ _ | refine blk_drew ?_ | refine blk_alloc ?_ _)); refine blk_far ?_ NB916_929.out _; (with_reducible repeat (first | refine blk_drewN ?_ _ | refine blk_drew ?_ | refine blk_alloc ?_ _)); refine blk_far ?_ NB916_929.out _; (with_reducible repeat (first | refine blk_drewN ?_ _ | refine blk_drew ?_ | refine blk_alloc ?_ _)); exact BK916.out) hb); have n5_ := Aside0.mk (blk_below (g := gb917) (o := .cells #[.int .i64 a2_0, .int .i64 a2_1] 28 (0, 0)) (by (with_reducible repeat (first | refine blk_drewN ?_ _ | refine blk_drew ?_ | refine blk_alloc ?_ _)); refine blk_far ?_ NB917_929.out _; (with_reducible repeat (first | refine blk_drewN ?_ _ | refine blk_drew ?_ | refine blk_alloc ?_ _)); refine blk_far ?_ NB917_929.out _; (with_reducible repeat (first | refine blk_drewN ?_ _ | refine blk_drew ?_ | refine blk_alloc ?_ _)); refine blk_far ?_ NB917_929.out _; (with_reducible repeat (first | refine blk_drewN ?_ _ | refine blk_drew ?_ | refine blk_alloc ?_ _)); exact BK917.out) hb); have n6_ := Aside0.mk (blk_below (g := gb929) (o := .cells #[.slice Ao29 t920.length co29, .slice Ao34 t923.length co34, .slice Ao35 t926.length co35] 25 (0, 0)) (by (with_reducible repeat (first | refine blk_drewN ?_ _ | refine blk_drew ?_ | refine blk_alloc ?_ _)); refine blk_put (cs := #[.slice Ao29 t920.length co29, .slice Ao34 t923.length co34, .slice none 0 0]) ?_ 2 _ rfl; (with_reducible repeat (first | refine blk_drewN ?_ _ | refine blk_drew ?_ | refine blk_alloc ?_ _)); refine blk_put (cs := #[.slice Ao29 t920.length co29, .slice none 0 0, .slice none 0 0]) ?_ 1 _ rfl; (with_reducible repeat (first | refine blk_drewN ?_ _ | refine blk_drew ?_ | refine blk_alloc ?_ _)); refine blk_put (cs := #[.slice none 0 0, .slice none 0 0, .slice none 0 0]) ?_ 0 _ rfl; (with_reducible repeat (first | refine blk_drewN ?_ _ | refine blk_drew ?_ | refine blk_alloc ?_ _)); exact BK929.out) hb); have n7_ := Aside0.mk (below_step (bl_ HB.out) hb); clear HO922; clear HO925; clear HO928; clear BK915; clear BK916; clear BK917; clear BK929; clear HB; have HO922 := n0_; have HO925 := n1_; have HO928 := n2_; have BK915 := n3_; have BK916 := n4_; have BK917 := n5_; have BK929 := n6_; have HB := n7_; clear n0_ n1_ n2_ n3_ n4_ n5_ n6_ n7_; (try clear hb); (try clear hb2); (try clear hk); (try clear hi)) | ((with_reducible refine gate_dst (N := 8) rfl ?_); (try (refine gate_guard (by rfl) ?_; dsimp only)); refine box_event ?hg (N := 8) ?hd (cs := #[.int .i64 0, .int .i64 0]) (t := 27) ?hr ?_; (case hd => rfl); (case hg => rfl); (case hr => first | (go_simp; done) | (go_simp; rfl)); intro gb933 hg w39 hbox hb; have n0_ := Aside0.mk (Kd.R_below (by (with_reducible repeat (first | apply Kd.R_alloc | apply Kd.R_drewN | apply Kd.R_drew)); exact HO922.out) hb); have n1_ := Aside0.mk (Kd.R_below (by (with_reducible repeat (first | apply Kd.R_alloc | apply Kd.R_drewN | apply Kd.R_drew)); exact HO925.out) hb); have n2_ := Aside0.mk (Kd.S_below (by (with_reducible repeat (first | apply Kd.S_alloc | apply Kd.S_drewN | apply Kd.S_drew)); exact HO928.out) hb); have n3_ := Aside0.mk (blk_below (g := gb915) (o := .cells #[.slice A0_0 l0_0.length c0_0, .slice A0_1 l0_1.length c0_1, .slice A0_2 l0_2.length c0_2] 25 (0, 0)) (bk_ BK915.out) hb); have n4_ := Aside0.mk (blk_below (g := gb916) (o := .cells #[.int .i64 a1_0, .int .i64 a1_1] 50 (0, 0)) (bk_ BK916.out) hb); have n5_ := Aside0.mk (blk_below (g := gb917) (o := .cells #[.int .i64 a2_0, .int .i64 a2_1] 28 (0, 0)) (bk_ BK917.out) hb); have n6_ := Aside0.mk (blk_below (g := gb929) (o := .cells #[.slice Ao29 t920.length co29, .slice Ao34 t923.length co34, .slice Ao35 t926.length co35] 25 (0, 0)) (bk_ BK929.out) hb); have n7_ := Aside0.mk (below_step (bl_ HB.out) hb); have n8_ := Aside0.mk (hbox); have n9_ := Aside0.mk ((by rw [hg]; exact (below_size (bl_ HB.out)) : w.heap.size ≤ gb933)); have n10_ := Aside0.mk ((by rw [hg]; exact (below_size (bl_ HB.out)) : w.heap.size ≤ gb933)); have n11_ := Aside0.mk ((by rw [hg]; exact Nat.ne_of_lt (blk_lt (g := gb915) (o := .cells #[.slice A0_0 l0_0.length c0_0, .slice A0_1 l0_1.length c0_1, .slice A0_2 l0_2.length c0_2] 25 (0, 0)) (bk_ BK915.out)) : gb915 ≠ gb933)); have n12_ := Aside0.mk ((by rw [hg]; exact Nat.ne_of_gt (blk_lt (g := gb915) (o := .cells #[.slice A0_0 l0_0.length c0_0, .slice A0_1 l0_1.length c0_1, .slice A0_2 l0_2.length c0_2] 25 (0, 0)) (bk_ BK915.out)) : gb933 ≠ gb915)); have n13_ := Aside0.mk ((by rw [hg]; exact Nat.ne_of_lt (blk_lt (g := gb916) (o := .cells #[.int .i64 a1_0, .int .i64 a1_1] 50 (0, 0)) (bk_ BK916.out)) : gb916 ≠ gb933)); have n14_ := Aside0.mk ((by rw [hg]; exact Nat.ne_of_gt (blk_lt (g := gb916) (o := .cells #[.int .i64 a1_0, .int .i64 a1_1] 50 (0, 0)) (bk_ BK916.out)) : gb933 ≠ gb916)); have n15_ := Aside0.mk ((by rw [hg]; exact Nat.ne_of_lt (blk_lt (g := gb917) (o := .cells #[.int .i64 a2_0, .int .i64 a2_1] 28 (0, 0)) (bk_ BK917.out)) : gb917 ≠ gb933)); have n16_ := Aside0.mk ((by rw [hg]; exact Nat.ne_of_gt (blk_lt (g := gb917) (o := .cells #[.int .i64 a2_0, .int .i64 a2_1] 28 (0, 0)) (bk_ BK917.out)) : gb933 ≠ gb917)); have n17_ := Aside0.mk ((by rw [hg]; exact Nat.ne_of_lt (blk_lt (g := gb929) (o := .cells #[.slice Ao29 t920.length co29, .slice Ao34 t923.length co34, .slice Ao35 t926.length co35] 25 (0, 0)) (bk_ BK929.out)) : gb929 ≠ gb933)); have n18_ := Aside0.mk ((by rw [hg]; exact Nat.ne_of_gt (blk_lt (g := gb929) (o := .cells #[.slice Ao29 t920.length co29, .slice Ao34 t923.length co34, .slice Ao35 t926.length co35] 25 (0, 0)) (bk_ BK929.out)) : gb933 ≠ gb929)); clear HO922; clear HO925; clear HO928; clear BK915; clear BK916; clear BK917; clear BK929; clear HB; have HO922 := n0_; have HO925 := n1_; have HO928 := n2_; have BK915 := n3_; have BK916 := n4_; have BK917 := n5_; have BK929 := n6_; have HB := n7_; have BK933 := n8_; have GW933 := n9_; have GE933 := n10_; have NB915_933 := n11_; have NB933_915 := n12_; have NB916_933 := n13_; have NB933_916 := n14_; have NB917_933 := n15_; have NB933_917 := n16_; have NB929_933 := n17_; have NB933_929 := n18_; clear n0_ n1_ n2_ n3_ n4_ n5_ n6_ n7_ n8_ n9_ n10_ n11_ n12_ n13_ n14_ n15_ n16_ n17_ n18_; clear hb hbox hg; have hnb40 := NB933_915.out; have hnc40 := NB915_933.out; have hnb41 := NB933_916.out; have hnc41 := NB916_933.out; have hnb42 := NB933_917.out; have hnc42 := NB917_933.out; have hnb43 := NB933_929.out; have hnc43 := NB929_933.out; have hcz44_0 : w39.cell? ⟨gb933, 0, none⟩ = some (.int .i64 0) := (blk_cell BK933.out 0).trans rfl; have hcz44_1 : w39.cell? ⟨gb933, 1, none⟩ = some (.int .i64 0) := (blk_cell BK933.out 1).trans rfl; have hfz44_0 := blk_frozen BK933.out 0; have hfz44_1 := blk_frozen BK933.out 1; have hcz45_0 : w39.cell? ⟨gb915, 0, none⟩ = some (.slice A0_0 l0_0.length c0_0) := (blk_cell BK915.out 0).trans rfl; have hcz45_1 : w39.cell? ⟨gb915, 1, none⟩ = some (.slice A0_1 l0_1.length c0_1) := (blk_cell BK915.out 1).trans rfl; have hcz45_2 : w39.cell? ⟨gb915, 2, none⟩ = some (.slice A0_2 l0_2.length c0_2) := (blk_cell BK915.out 2).trans rfl; have hfz45_0 := blk_frozen BK915.out 0; have hfz45_1 := blk_frozen BK915.out 1; have hfz45_2 := blk_frozen BK915.out 2; have hcz46_0 : w39.cell? ⟨gb916, 0, none⟩ = some (.int .i64 a1_0) := (blk_cell BK916.out 0).trans rfl; have hcz46_1 : w39.cell? ⟨gb916, 1, none⟩ = some (.int .i64 a1_1) := (blk_cell BK916.out 1).trans rfl; have hfz46_0 := blk_frozen BK916.out 0; have hfz46_1 := blk_frozen BK916.out 1) | ((with_reducible refine gate_callee (f := 35) rfl ?_); refine goesL_ (some 35) rfl rfl Try.func35 (by kernel_rfl) rfl #[.agg #[.slice A0_0 l0_0.length c0_0, .slice A0_1 l0_1.length c0_1, .slice A0_2 l0_2.length c0_2], .int .i64 a1_0, .int .i64 a1_1] rfl (by (try simp only [List.map_toArray, List.map_cons, List.map_nil]); first | done | rfl | (simp only [List.length_drop, List.length_take]; rfl)) ?_; (with_reducible refine (swashplateref01_At.calls k _ _ l0_0 _ _ l0_1 _ _ l0_2 a1_0 a1_1 t934 t935 t936 _ ?side1 ?side2 ?side3 ?side4 ?side5 ?side6 A17.out).mono ?_); (case side1 => exact Kd.C_below HR0_0.out (bl_ HB.out)); (case side2 => exact HC0_0.out); (case side3 => exact Kd.C_below HR0_1.out (bl_ HB.out)); (case side4 => exact HC0_1.out); (case side5 => exact Kd.C_below HR0_2.out (bl_ HB.out)); (case side6 => exact HC0_2.out); rintro e w47 ⟨rfl, hb⟩; refine ⟨_, rfl, ?_⟩; have n0_ := Aside0.mk (Kd.R_below (by (with_reducible repeat (first | apply Kd.R_alloc | apply Kd.R_drewN | apply Kd.R_drew)); exact (Kd.R_mono (Kd.R_far (p := ⟨gb933, 1, none⟩) (Kd.R_far (p := ⟨gb933, 0, none⟩) (Kd.R_types HO922.out BK933.out (by decide)) (fun _ hk => hk.2) (.int .i64 t930)) (fun _ hk => hk.2) (.int .i64 t931)) (fun _ h_ => h_.1))) hb); have n1_ := Aside0.mk (Kd.R_below (by (with_reducible repeat (first | apply Kd.R_alloc | apply Kd.R_drewN | apply Kd.R_drew)); exact (Kd.R_mono (Kd.R_far (p := ⟨gb933, 1, none⟩) (Kd.R_far (p := ⟨gb933, 0, none⟩) (Kd.R_types HO925.out BK933.out (by decide)) (fun _ hk => hk.2) (.int .i64 t930)) (fun _ hk => hk.2) (.int .i64 t931)) (fun _ h_ => h_.1))) hb); have n2_ := Aside0.mk (Kd.S_below (by (with_reducible repeat (first | apply Kd.S_alloc | apply Kd.S_drewN | apply Kd.S_drew)); exact (Kd.S_mono (Kd.S_far (p := ⟨gb933, 1, none⟩) (Kd.S_far (p := ⟨gb933, 0, none⟩) (Kd.S_types HO928.out BK933.out (by decide)) (fun _ hk => hk.2) (.int .i64 t930)) (fun _ hk => hk.2) (.int .i64 t931)) (fun _ h_ => h_.1))) hb); have n3_ := Aside0.mk (blk_below (g := gb915) (o := .cells #[.slice A0_0 l0_0.length c0_0, .slice A0_1 l0_1.length c0_1, .slice A0_2 l0_2.length c0_2] 25 (0, 0)) (by (with_reducible repeat (first | refine blk_drewN ?_ _ | refine blk_drew ?_ | refine blk_alloc ?_ _)); refine blk_far ?_ NB915_933.out _; (with_reducible repeat (first | refine blk_drewN ?_ _ | refine blk_drew ?_ | refine blk_alloc ?_ _)); refine blk_far ?_ NB915_933.out _; (with_reducible repeat (first | refine blk_drewN ?_ _ | refine blk_drew ?_ | refine blk_alloc ?_ _)); exact BK915.out) hb); have n4_ := Aside0.mk (blk_below (g := gb916) (o := .cells #[.int .i64 a1_0, .int .i64 a1_1] 50 (0, 0)) (by (with_reducible repeat (first | refine blk_drewN ?_ _ | refine blk_drew ?_ | refine blk_alloc ?_ _)); refine blk_far ?_ NB916_933.out _; (with_reducible repeat (first | refine blk_drewN ?_ _ | refine blk_drew ?_ | refine blk_alloc ?_ _)); refine blk_far ?_ NB916_933.out _; (with_reducible repeat (first | refine blk_drewN ?_ _ | refine blk_drew ?_ | refine blk_alloc ?_ _)); exact BK916.out) hb); have n5_ := Aside0.mk (blk_below (g := gb917) (o := .cells #[.int .i64 a2_0, .int .i64 a2_1] 28 (0, 0)) (by (with_reducible repeat (first | refine blk_drewN ?_ _ | refine blk_drew ?_ | refine blk_alloc ?_ _)); refine blk_far ?_ NB917_933.out _; (with_reducible repeat (first | refine blk_drewN ?_ _ | refine blk_drew ?_ | refine blk_alloc ?_ _)); refine blk_far ?_ NB917_933.out _; (with_reducible repeat (first | refine blk_drewN ?_ _ | refine blk_drew ?_ | refine blk_alloc ?_ _)); exact BK917.out) hb); have n6_ := Aside0.mk (blk_below (g := gb929) (o := .cells #[.slice Ao29 t920.length co29, .slice Ao34 t923.length co34, .slice Ao35 t926.length co35] 25 (0, 0)) (by (with_reducible repeat (first | refine blk_drewN ?_ _ | refine blk_drew ?_ | refine blk_alloc ?_ _)); refine blk_far ?_ NB929_933.out _; (with_reducible repeat (first | refine blk_drewN ?_ _ | refine blk_drew ?_ | refine blk_alloc ?_ _)); refine blk_far ?_ NB929_933.out _; (with_reducible repeat (first | refine blk_drewN ?_ _ | refine blk_drew ?_ | refine blk_alloc ?_ _)); exact BK929.out) hb); have n7_ := Aside0.mk (blk_below (g := gb933) (o := .cells #[.int .i64 t930, .int .i64 t931] 27 (0, 0)) (by (with_reducible repeat (first | refine blk_drewN ?_ _ | refine blk_drew ?_ | refine blk_alloc ?_ _)); refine blk_put (cs := #[.int .i64 t930, .int .i64 0]) ?_ 1 _ rfl; (with_reducible repeat (first | refine blk_drewN ?_ _ | refine blk_drew ?_ | refine blk_alloc ?_ _)); refine blk_put (cs := #[.int .i64 0, .int .i64 0]) ?_ 0 _ rfl; (with_reducible repeat (first | refine blk_drewN ?_ _ | refine blk_drew ?_ | refine blk_alloc ?_ _)); exact BK933.out) hb); have n8_ := Aside0.mk (below_step (bl_ HB.out) hb); clear HO922; clear HO925; clear HO928; clear BK915; clear BK916; clear BK917; clear BK929; clear BK933; clear HB; have HO922 := n0_; have HO925 := n1_; have HO928 := n2_; have BK915 := n3_; have BK916 := n4_; have BK917 := n5_; have BK929 := n6_; have BK933 := n7_; have HB := n8_; clear n0_ n1_ n2_ n3_ n4_ n5_ n6_ n7_ n8_; (try clear hb); (try clear hb2); (try clear hk); (try clear hi)) | ((with_reducible refine gate_dst (N := 10) rfl ?_); (try (refine gate_guard (by rfl) ?_; dsimp only)); refine box_event ?hg (N := 10) ?hd (cs := #[.int .i64 0, .int .i64 0]) (t := 27) ?hr ?_; (case hd => rfl); (case hg => rfl); (case hr => first | (go_simp; done) | (go_simp; rfl)); intro gb937 hg w48 hbox hb; have n0_ := Aside0.mk (Kd.R_below (by (with_reducible repeat (first | apply Kd.R_alloc | apply Kd.R_drewN | apply Kd.R_drew)); exact HO922.out) hb); have n1_ := Aside0.mk (Kd.R_below (by (with_reducible repeat (first | apply Kd.R_alloc | apply Kd.R_drewN | apply Kd.R_drew)); exact HO925.out) hb); have n2_ := Aside0.mk (Kd.S_below (by (with_reducible repeat (first | apply Kd.S_alloc | apply Kd.S_drewN | apply Kd.S_drew)); exact HO928.out) hb); have n3_ := Aside0.mk (blk_below (g := gb915) (o := .cells #[.slice A0_0 l0_0.length c0_0, .slice A0_1 l0_1.length c0_1, .slice A0_2 l0_2.length c0_2] 25 (0, 0)) (bk_ BK915.out) hb); have n4_ := Aside0.mk (blk_below (g := gb916) (o := .cells #[.int .i64 a1_0, .int .i64 a1_1] 50 (0, 0)) (bk_ BK916.out) hb); have n5_ := Aside0.mk (blk_below (g := gb917) (o := .cells #[.int .i64 a2_0, .int .i64 a2_1] 28 (0, 0)) (bk_ BK917.out) hb); have n6_ := Aside0.mk (blk_below (g := gb929) (o := .cells #[.slice Ao29 t920.length co29, .slice Ao34 t923.length co34, .slice Ao35 t926.length co35] 25 (0, 0)) (bk_ BK929.out) hb); have n7_ := Aside0.mk (blk_below (g := gb933) (o := .cells #[.int .i64 t930, .int .i64 t931] 27 (0, 0)) (bk_ BK933.out) hb); have n8_ := Aside0.mk (below_step (bl_ HB.out) hb); have n9_ := Aside0.mk (hbox); have n10_ := Aside0.mk ((by rw [hg]; exact (below_size (bl_ HB.out)) : w.heap.size ≤ gb937)); have n11_ := Aside0.mk ((by rw [hg]; exact (below_size (bl_ HB.out)) : w.heap.size ≤ gb937)); have n12_ := Aside0.mk ((by rw [hg]; exact Nat.ne_of_lt (blk_lt (g := gb915) (o := .cells #[.slice A0_0 l0_0.length c0_0, .slice A0_1 l0_1.length c0_1, .slice A0_2 l0_2.length c0_2] 25 (0, 0)) (bk_ BK915.out)) : gb915 ≠ gb937)); have n13_ := Aside0.mk ((by rw [hg]; exact Nat.ne_of_gt (blk_lt (g := gb915) (o := .cells #[.slice A0_0 l0_0.length c0_0, .slice A0_1 l0_1.length c0_1, .slice A0_2 l0_2.length c0_2] 25 (0, 0)) (bk_ BK915.out)) : gb937 ≠ gb915)); have n14_ := Aside0.mk ((by rw [hg]; exact Nat.ne_of_lt (blk_lt (g := gb916) (o := .cells #[.int .i64 a1_0, .int .i64 a1_1] 50 (0, 0)) (bk_ BK916.out)) : gb916 ≠ gb937)); have n15_ := Aside0.mk ((by rw [hg]; exact Nat.ne_of_gt (blk_lt (g := gb916) (o := .cells #[.int .i64 a1_0, .int .i64 a1_1] 50 (0, 0)) (bk_ BK916.out)) : gb937 ≠ gb916)); have n16_ := Aside0.mk ((by rw [hg]; exact Nat.ne_of_lt (blk_lt (g := gb917) (o := .cells #[.int .i64 a2_0, .int .i64 a2_1] 28 (0, 0)) (bk_ BK917.out)) : gb917 ≠ gb937)); have n17_ := Aside0.mk ((by rw [hg]; exact Nat.ne_of_gt (blk_lt (g := gb917) (o := .cells #[.int .i64 a2_0, .int .i64 a2_1] 28 (0, 0)) (bk_ BK917.out)) : gb937 ≠ gb917)); have n18_ := Aside0.mk ((by rw [hg]; exact Nat.ne_of_lt (blk_lt (g := gb929) (o := .cells #[.slice Ao29 t920.length co29, .slice Ao34 t923.length co34, .slice Ao35 t926.length co35] 25 (0, 0)) (bk_ BK929.out)) : gb929 ≠ gb937)); have n19_ := Aside0.mk ((by rw [hg]; exact Nat.ne_of_gt (blk_lt (g := gb929) (o := .cells #[.slice Ao29 t920.length co29, .slice Ao34 t923.length co34, .slice Ao35 t926.length co35] 25 (0, 0)) (bk_ BK929.out)) : gb937 ≠ gb929)); have n20_ := Aside0.mk ((by rw [hg]; exact Nat.ne_of_lt (blk_lt (g := gb933) (o := .cells #[.int .i64 t930, .int .i64 t931] 27 (0, 0)) (bk_ BK933.out)) : gb933 ≠ gb937)); have n21_ := Aside0.mk ((by rw [hg]; exact Nat.ne_of_gt (blk_lt (g := gb933) (o := .cells #[.int .i64 t930, .int .i64 t931] 27 (0, 0)) (bk_ BK933.out)) : gb937 ≠ gb933)); clear HO922; clear HO925; clear HO928; clear BK915; clear BK916; clear BK917; clear BK929; clear BK933; clear HB; have HO922 := n0_; have HO925 := n1_; have HO928 := n2_; have BK915 := n3_; have BK916 := n4_; have BK917 := n5_; have BK929 := n6_; have BK933 := n7_; have HB := n8_; have BK937 := n9_; have GW937 := n10_; have GE937 := n11_; have NB915_937 := n12_; have NB937_915 := n13_; have NB916_937 := n14_; have NB937_916 := n15_; have NB917_937 := n16_; have NB937_917 := n17_; have NB929_937 := n18_; have NB937_929 := n19_; have NB933_937 := n20_; have NB937_933 := n21_; clear n0_ n1_ n2_ n3_ n4_ n5_ n6_ n7_ n8_ n9_ n10_ n11_ n12_ n13_ n14_ n15_ n16_ n17_ n18_ n19_ n20_ n21_; clear hb hbox hg; have hnb49 := NB937_915.out; have hnc49 := NB915_937.out; have hnb50 := NB937_916.out; have hnc50 := NB916_937.out; have hnb51 := NB937_917.out; have hnc51 := NB917_937.out; have hnb52 := NB937_929.out; have hnc52 := NB929_937.out; have hnb53 := NB937_933.out; have hnc53 := NB933_937.out; have hcz54_0 : w48.cell? ⟨gb937, 0, none⟩ = some (.int .i64 0) := (blk_cell BK937.out 0).trans rfl; have hcz54_1 : w48.cell? ⟨gb937, 1, none⟩ = some (.int .i64 0) := (blk_cell BK937.out 1).trans rfl; have hfz54_0 := blk_frozen BK937.out 0; have hfz54_1 := blk_frozen BK937.out 1))
    (try simp only [Act.put, List.setIfInBounds_toArray, List.set_cons_zero, List.set_cons_succ])
    go_cut [51] (fun v51 wc => ∃ (kq : Nat) (x51_17 : Bool), v51 = .bool x51_17 ∧ Aside0 (swashplatelaw01_SpansValues.j0 kq x51_17 l0_0 l0_1 l0_2 a2_0 a2_1 t920 t923 t926 = some r) ∧ Aside0 (kq ≤ k) ∧ Aside0 (Kd.R (Kd.int .i64) 3 wc w.heap.size (fun k_ => some k_ ≠ ((.slice Ao34 t923.length co34) : Value).ownBlock) (.slice Ao29 t920.length co29) t920) ∧ Aside0 (Kd.R (Kd.int .i64) 3 wc w.heap.size (fun k_ => some k_ ≠ ((.slice Ao29 t920.length co29) : Value).ownBlock) (.slice Ao34 t923.length co34) t923) ∧ Aside0 (Kd.S (Kd.slice 3 (Kd.int .i64)) 22 wc w.heap.size (fun k_ => some k_ ≠ ((.slice Ao29 t920.length co29) : Value).ownBlock ∧ some k_ ≠ ((.slice Ao34 t923.length co34) : Value).ownBlock) (.slice Ao35 t926.length co35) t926) ∧ Aside0 (wc.heap[gb915]? = some (.cells #[(.slice A0_0 l0_0.length c0_0), (.slice A0_1 l0_1.length c0_1), (.slice A0_2 l0_2.length c0_2)] 25 (0, 0))) ∧ Aside0 (wc.heap[gb916]? = some (.cells #[.int .i64 a1_0, .int .i64 a1_1] 50 (0, 0))) ∧ Aside0 (wc.heap[gb917]? = some (.cells #[.int .i64 a2_0, .int .i64 a2_1] 28 (0, 0))) ∧ Aside0 (wc.heap[gb929]? = some (.cells #[(.slice Ao29 t920.length co29), (.slice Ao34 t923.length co34), (.slice Ao35 t926.length co35)] 25 (0, 0))) ∧ Aside0 (wc.heap[gb933]? = some (.cells #[.int .i64 t930, .int .i64 t931] 27 (0, 0))) ∧ Aside0 (wc.heap[gb937]? = some (.cells #[.int .i64 t934, .int .i64 t935] 27 (0, 0))) ∧ Aside0 (Below w.heap.size w wc))
    case first =>
      have H := HC18.out
      clear HC18
      by_cases c55 : (!(t930 == t934) || (!(t931 == t935))) = true
      · rw [if_pos c55] at H
        have c55b0 : (!(t930 == t934) || (!(t931 == t935))) = true := c55
        clear c55
        (first | rw [c55b0] | (simp only [i64_w, i32_w]; rw [c55b0]) | skip)
        have H' := Aside0.mk H
        clear H
        have hnb56 := NB933_915.out
        have hnc56 := NB915_933.out
        have hnb57 := NB933_916.out
        have hnc57 := NB916_933.out
        have hnb58 := NB933_917.out
        have hnc58 := NB917_933.out
        have hnb59 := NB933_929.out
        have hnc59 := NB929_933.out
        have hnb60 := NB933_937.out
        have hnc60 := NB937_933.out
        have hcz61_0 : w48.cell? ⟨gb933, 0, none⟩ = some (.int .i64 t930) := (blk_cell BK933.out 0).trans rfl
        have hcz61_1 : w48.cell? ⟨gb933, 1, none⟩ = some (.int .i64 t931) := (blk_cell BK933.out 1).trans rfl
        have hfz61_0 := blk_frozen BK933.out 0
        have hfz61_1 := blk_frozen BK933.out 1
        have hnb62 := NB937_915.out
        have hnc62 := NB915_937.out
        have hnb63 := NB937_916.out
        have hnc63 := NB916_937.out
        have hnb64 := NB937_917.out
        have hnc64 := NB917_937.out
        have hnb65 := NB937_929.out
        have hnc65 := NB929_937.out
        have hcz66_0 : w48.cell? ⟨gb937, 0, none⟩ = some (.int .i64 0) := (blk_cell BK937.out 0).trans rfl
        have hcz66_1 : w48.cell? ⟨gb937, 1, none⟩ = some (.int .i64 0) := (blk_cell BK937.out 1).trans rfl
        have hfz66_0 := blk_frozen BK937.out 0
        have hfz66_1 := blk_frozen BK937.out 1
        go_wp2
        go_meet
        case rel => exact ⟨_, (true), (by first | rfl | (simp; done) | (simp [*]; done)), H', ⟨by first | omega | exact Nat.le_refl _⟩, ⟨by (with_reducible repeat (first | apply Kd.R_alloc | apply Kd.R_drewN | apply Kd.R_drew)); exact Kd.R_mono (Kd.R_far (p := ⟨gb937, 1, none⟩) (Kd.R_far (p := ⟨gb937, 0, none⟩) (Kd.R_types HO922.out BK937.out (by decide)) (fun _ hk => hk.2) (.int .i64 t934)) (fun _ hk => hk.2) (.int .i64 t935)) (fun _ hk => hk.1)⟩, ⟨by (with_reducible repeat (first | apply Kd.R_alloc | apply Kd.R_drewN | apply Kd.R_drew)); exact Kd.R_mono (Kd.R_far (p := ⟨gb937, 1, none⟩) (Kd.R_far (p := ⟨gb937, 0, none⟩) (Kd.R_types HO925.out BK937.out (by decide)) (fun _ hk => hk.2) (.int .i64 t934)) (fun _ hk => hk.2) (.int .i64 t935)) (fun _ hk => hk.1)⟩, ⟨by (with_reducible repeat (first | apply Kd.S_alloc | apply Kd.S_drewN | apply Kd.S_drew)); exact Kd.S_mono (Kd.S_far (p := ⟨gb937, 1, none⟩) (Kd.S_far (p := ⟨gb937, 0, none⟩) (Kd.S_types HO928.out BK937.out (by decide)) (fun _ hk => hk.2) (.int .i64 t934)) (fun _ hk => hk.2) (.int .i64 t935)) (fun _ hk => ⟨hk.1.1, hk.1.2⟩)⟩, ⟨by (with_reducible repeat (first | refine blk_drewN ?_ _ | refine blk_drew ?_ | refine blk_alloc ?_ _)); refine blk_far ?_ NB915_937.out _; (with_reducible repeat (first | refine blk_drewN ?_ _ | refine blk_drew ?_ | refine blk_alloc ?_ _)); refine blk_far ?_ NB915_937.out _; (with_reducible repeat (first | refine blk_drewN ?_ _ | refine blk_drew ?_ | refine blk_alloc ?_ _)); exact BK915.out⟩, ⟨by (with_reducible repeat (first | refine blk_drewN ?_ _ | refine blk_drew ?_ | refine blk_alloc ?_ _)); refine blk_far ?_ NB916_937.out _; (with_reducible repeat (first | refine blk_drewN ?_ _ | refine blk_drew ?_ | refine blk_alloc ?_ _)); refine blk_far ?_ NB916_937.out _; (with_reducible repeat (first | refine blk_drewN ?_ _ | refine blk_drew ?_ | refine blk_alloc ?_ _)); exact BK916.out⟩, ⟨by (with_reducible repeat (first | refine blk_drewN ?_ _ | refine blk_drew ?_ | refine blk_alloc ?_ _)); refine blk_far ?_ NB917_937.out _; (with_reducible repeat (first | refine blk_drewN ?_ _ | refine blk_drew ?_ | refine blk_alloc ?_ _)); refine blk_far ?_ NB917_937.out _; (with_reducible repeat (first | refine blk_drewN ?_ _ | refine blk_drew ?_ | refine blk_alloc ?_ _)); exact BK917.out⟩, ⟨by (with_reducible repeat (first | refine blk_drewN ?_ _ | refine blk_drew ?_ | refine blk_alloc ?_ _)); refine blk_far ?_ NB929_937.out _; (with_reducible repeat (first | refine blk_drewN ?_ _ | refine blk_drew ?_ | refine blk_alloc ?_ _)); refine blk_far ?_ NB929_937.out _; (with_reducible repeat (first | refine blk_drewN ?_ _ | refine blk_drew ?_ | refine blk_alloc ?_ _)); exact BK929.out⟩, ⟨by (with_reducible repeat (first | refine blk_drewN ?_ _ | refine blk_drew ?_ | refine blk_alloc ?_ _)); refine blk_far ?_ NB933_937.out _; (with_reducible repeat (first | refine blk_drewN ?_ _ | refine blk_drew ?_ | refine blk_alloc ?_ _)); refine blk_far ?_ NB933_937.out _; (with_reducible repeat (first | refine blk_drewN ?_ _ | refine blk_drew ?_ | refine blk_alloc ?_ _)); exact BK933.out⟩, ⟨by (with_reducible repeat (first | refine blk_drewN ?_ _ | refine blk_drew ?_ | refine blk_alloc ?_ _)); refine blk_put (cs := #[.int .i64 t934, .int .i64 0]) ?_ 1 _ rfl; (with_reducible repeat (first | refine blk_drewN ?_ _ | refine blk_drew ?_ | refine blk_alloc ?_ _)); refine blk_put (cs := #[.int .i64 0, .int .i64 0]) ?_ 0 _ rfl; (with_reducible repeat (first | refine blk_drewN ?_ _ | refine blk_drew ?_ | refine blk_alloc ?_ _)); exact BK937.out⟩, ⟨bl_ HB.out⟩⟩
      · rw [if_neg c55] at H
        have c55b0 : (!(t930 == t934) || (!(t931 == t935))) = false := by simpa using c55
        clear c55
        (first | rw [c55b0] | (simp only [i64_w, i32_w]; rw [c55b0]) | skip)
        by_cases c67 : t932 = t936
        · rw [if_pos c67] at H
          have c67b0 : (t932 == t936) = true := beq_iff_eq.mpr c67
          have c67b1 : (t932 != t936) = false := bne_eq_false_iff_eq.mpr c67
          clear c67
          replace H := Option.bind_eq_some_iff.mp H
          obtain ⟨t938, A680, H⟩ := H
          replace H : (swashplatelaw01_SpansValues.j0 k (!t938) l0_0 l0_1 l0_2 a2_0 a2_1 t920 t923 t926) = some r := H
          have A68 := Aside0.mk A680
          clear A680
          have H' := Aside0.mk H
          clear H
          have hnb69 := NB933_915.out
          have hnc69 := NB915_933.out
          have hnb70 := NB933_916.out
          have hnc70 := NB916_933.out
          have hnb71 := NB933_917.out
          have hnc71 := NB917_933.out
          have hnb72 := NB933_929.out
          have hnc72 := NB929_933.out
          have hnb73 := NB933_937.out
          have hnc73 := NB937_933.out
          have hcz74_0 : w48.cell? ⟨gb933, 0, none⟩ = some (.int .i64 t930) := (blk_cell BK933.out 0).trans rfl
          have hcz74_1 : w48.cell? ⟨gb933, 1, none⟩ = some (.int .i64 t931) := (blk_cell BK933.out 1).trans rfl
          have hfz74_0 := blk_frozen BK933.out 0
          have hfz74_1 := blk_frozen BK933.out 1
          have hnb75 := NB937_915.out
          have hnc75 := NB915_937.out
          have hnb76 := NB937_916.out
          have hnc76 := NB916_937.out
          have hnb77 := NB937_917.out
          have hnc77 := NB917_937.out
          have hnb78 := NB937_929.out
          have hnc78 := NB929_937.out
          have hcz79_0 : w48.cell? ⟨gb937, 0, none⟩ = some (.int .i64 0) := (blk_cell BK937.out 0).trans rfl
          have hcz79_1 : w48.cell? ⟨gb937, 1, none⟩ = some (.int .i64 0) := (blk_cell BK937.out 1).trans rfl
          have hfz79_0 := blk_frozen BK937.out 0
          have hfz79_1 := blk_frozen BK937.out 1
          have hnb80 := NB929_915.out
          have hnc80 := NB915_929.out
          have hnb81 := NB929_916.out
          have hnc81 := NB916_929.out
          have hnb82 := NB929_917.out
          have hnc82 := NB917_929.out
          have hcz83_0 : w48.cell? ⟨gb929, 0, none⟩ = some (.slice Ao29 t920.length co29) := (blk_cell BK929.out 0).trans rfl
          have hcz83_1 : w48.cell? ⟨gb929, 1, none⟩ = some (.slice Ao34 t923.length co34) := (blk_cell BK929.out 1).trans rfl
          have hcz83_2 : w48.cell? ⟨gb929, 2, none⟩ = some (.slice Ao35 t926.length co35) := (blk_cell BK929.out 2).trans rfl
          have hfz83_0 := blk_frozen BK929.out 0
          have hfz83_1 := blk_frozen BK929.out 1
          have hfz83_2 := blk_frozen BK929.out 2
          have hnb84 := NB915_916.out
          have hnc84 := NB916_915.out
          have hnb85 := NB915_917.out
          have hnc85 := NB917_915.out
          have hcz86_0 : w48.cell? ⟨gb915, 0, none⟩ = some (.slice A0_0 l0_0.length c0_0) := (blk_cell BK915.out 0).trans rfl
          have hcz86_1 : w48.cell? ⟨gb915, 1, none⟩ = some (.slice A0_1 l0_1.length c0_1) := (blk_cell BK915.out 1).trans rfl
          have hcz86_2 : w48.cell? ⟨gb915, 2, none⟩ = some (.slice A0_2 l0_2.length c0_2) := (blk_cell BK915.out 2).trans rfl
          have hfz86_0 := blk_frozen BK915.out 0
          have hfz86_1 := blk_frozen BK915.out 1
          have hfz86_2 := blk_frozen BK915.out 2
          go_wp2_with (first | (go_at_call 36; (with_reducible refine (swashplatelaw01_sameTable.calls k _ _ t920 _ _ t923 _ _ t926 _ _ l0_0 _ _ l0_1 _ _ l0_2 t938 _ ?side1 ?side2 ?side3 ?side4 ?side5 ?side6 ?side7 ?side8 ?side9 ?side10 ?side11 ?side12 A68.out).mono ?_); (case side1 => refine (Kd.R_reads' (e := 3) (base := w.heap.size) (ok := fun k_ => some k_ ≠ (.slice Ao34 t923.length co34 : Value).ownBlock) (n := t920.length) (c := co29) ?_).2.2; exact (by (with_reducible repeat (first | apply Kd.R_alloc | apply Kd.R_drewN | apply Kd.R_drew)); exact (Kd.R_mono (Kd.R_far (p := ⟨gb937, 1, none⟩) (Kd.R_far (p := ⟨gb937, 0, none⟩) (Kd.R_types HO922.out BK937.out (by decide)) (fun _ hk => hk.2) (.int .i64 t934)) (fun _ hk => hk.2) (.int .i64 t935)) (fun _ h_ => h_.1)))); (case side2 => exact (Kd.R_reads' HO922.out).2.1); (case side3 => refine (Kd.R_reads' (e := 3) (base := w.heap.size) (ok := fun k_ => some k_ ≠ (.slice Ao29 t920.length co29 : Value).ownBlock) (n := t923.length) (c := co34) ?_).2.2; exact (by (with_reducible repeat (first | apply Kd.R_alloc | apply Kd.R_drewN | apply Kd.R_drew)); exact (Kd.R_mono (Kd.R_far (p := ⟨gb937, 1, none⟩) (Kd.R_far (p := ⟨gb937, 0, none⟩) (Kd.R_types HO925.out BK937.out (by decide)) (fun _ hk => hk.2) (.int .i64 t934)) (fun _ hk => hk.2) (.int .i64 t935)) (fun _ h_ => h_.1)))); (case side4 => exact (Kd.R_reads' HO925.out).2.1); (case side5 => refine (Kd.S_reads' (e := 22) (base := w.heap.size) (ok := fun k_ => (some k_ ≠ (.slice Ao29 t920.length co29 : Value).ownBlock ∧ some k_ ≠ (.slice Ao34 t923.length co34 : Value).ownBlock)) (n := t926.length) (c := co35) ?_).2.2; exact (by (with_reducible repeat (first | apply Kd.S_alloc | apply Kd.S_drewN | apply Kd.S_drew)); exact (Kd.S_mono (Kd.S_far (p := ⟨gb937, 1, none⟩) (Kd.S_far (p := ⟨gb937, 0, none⟩) (Kd.S_types HO928.out BK937.out (by decide)) (fun _ hk => hk.2) (.int .i64 t934)) (fun _ hk => hk.2) (.int .i64 t935)) (fun _ h_ => h_.1)))); (case side6 => exact (Kd.S_reads' HO928.out).2.1); (case side7 => exact Kd.C_below HR0_0.out (bl_ HB.out)); (case side8 => exact HC0_0.out); (case side9 => exact Kd.C_below HR0_1.out (bl_ HB.out)); (case side10 => exact HC0_1.out); (case side11 => exact Kd.C_below HR0_2.out (bl_ HB.out)); (case side12 => exact HC0_2.out); rintro e w87 ⟨rfl, hb⟩; have n0_ := Aside0.mk (Kd.R_below (by (with_reducible repeat (first | apply Kd.R_alloc | apply Kd.R_drewN | apply Kd.R_drew)); exact (Kd.R_mono (Kd.R_far (p := ⟨gb937, 1, none⟩) (Kd.R_far (p := ⟨gb937, 0, none⟩) (Kd.R_types HO922.out BK937.out (by decide)) (fun _ hk => hk.2) (.int .i64 t934)) (fun _ hk => hk.2) (.int .i64 t935)) (fun _ h_ => h_.1))) hb); have n1_ := Aside0.mk (Kd.R_below (by (with_reducible repeat (first | apply Kd.R_alloc | apply Kd.R_drewN | apply Kd.R_drew)); exact (Kd.R_mono (Kd.R_far (p := ⟨gb937, 1, none⟩) (Kd.R_far (p := ⟨gb937, 0, none⟩) (Kd.R_types HO925.out BK937.out (by decide)) (fun _ hk => hk.2) (.int .i64 t934)) (fun _ hk => hk.2) (.int .i64 t935)) (fun _ h_ => h_.1))) hb); have n2_ := Aside0.mk (Kd.S_below (by (with_reducible repeat (first | apply Kd.S_alloc | apply Kd.S_drewN | apply Kd.S_drew)); exact (Kd.S_mono (Kd.S_far (p := ⟨gb937, 1, none⟩) (Kd.S_far (p := ⟨gb937, 0, none⟩) (Kd.S_types HO928.out BK937.out (by decide)) (fun _ hk => hk.2) (.int .i64 t934)) (fun _ hk => hk.2) (.int .i64 t935)) (fun _ h_ => h_.1))) hb); have n3_ := Aside0.mk (blk_below (g := gb915) (o := .cells #[.slice A0_0 l0_0.length c0_0, .slice A0_1 l0_1.length c0_1, .slice A0_2 l0_2.length c0_2] 25 (0, 0)) (by (with_reducible repeat (first | refine blk_drewN ?_ _ | refine blk_drew ?_ | refine blk_alloc ?_ _)); refine blk_far ?_ NB915_937.out _; (with_reducible repeat (first | refine blk_drewN ?_ _ | refine blk_drew ?_ | refine blk_alloc ?_ _)); refine blk_far ?_ NB915_937.out _; (with_reducible repeat (first | refine blk_drewN ?_ _ | refine blk_drew ?_ | refine blk_alloc ?_ _)); exact BK915.out) hb); have n4_ := Aside0.mk (blk_below (g := gb916) (o := .cells #[.int .i64 a1_0, .int .i64 a1_1] 50 (0, 0)) (by (with_reducible repeat (first | refine blk_drewN ?_ _ | refine blk_drew ?_ | refine blk_alloc ?_ _)); refine blk_far ?_ NB916_937.out _; (with_reducible repeat (first | refine blk_drewN ?_ _ | refine blk_drew ?_ | refine blk_alloc ?_ _)); refine blk_far ?_ NB916_937.out _; (with_reducible repeat (first | refine blk_drewN ?_ _ | refine blk_drew ?_ | refine blk_alloc ?_ _)); exact BK916.out) hb); have n5_ := Aside0.mk (blk_below (g := gb917) (o := .cells #[.int .i64 a2_0, .int .i64 a2_1] 28 (0, 0)) (by (with_reducible repeat (first | refine blk_drewN ?_ _ | refine blk_drew ?_ | refine blk_alloc ?_ _)); refine blk_far ?_ NB917_937.out _; (with_reducible repeat (first | refine blk_drewN ?_ _ | refine blk_drew ?_ | refine blk_alloc ?_ _)); refine blk_far ?_ NB917_937.out _; (with_reducible repeat (first | refine blk_drewN ?_ _ | refine blk_drew ?_ | refine blk_alloc ?_ _)); exact BK917.out) hb); have n6_ := Aside0.mk (blk_below (g := gb929) (o := .cells #[.slice Ao29 t920.length co29, .slice Ao34 t923.length co34, .slice Ao35 t926.length co35] 25 (0, 0)) (by (with_reducible repeat (first | refine blk_drewN ?_ _ | refine blk_drew ?_ | refine blk_alloc ?_ _)); refine blk_far ?_ NB929_937.out _; (with_reducible repeat (first | refine blk_drewN ?_ _ | refine blk_drew ?_ | refine blk_alloc ?_ _)); refine blk_far ?_ NB929_937.out _; (with_reducible repeat (first | refine blk_drewN ?_ _ | refine blk_drew ?_ | refine blk_alloc ?_ _)); exact BK929.out) hb); have n7_ := Aside0.mk (blk_below (g := gb933) (o := .cells #[.int .i64 t930, .int .i64 t931] 27 (0, 0)) (by (with_reducible repeat (first | refine blk_drewN ?_ _ | refine blk_drew ?_ | refine blk_alloc ?_ _)); refine blk_far ?_ NB933_937.out _; (with_reducible repeat (first | refine blk_drewN ?_ _ | refine blk_drew ?_ | refine blk_alloc ?_ _)); refine blk_far ?_ NB933_937.out _; (with_reducible repeat (first | refine blk_drewN ?_ _ | refine blk_drew ?_ | refine blk_alloc ?_ _)); exact BK933.out) hb); have n8_ := Aside0.mk (blk_below (g := gb937) (o := .cells #[.int .i64 t934, .int .i64 t935] 27 (0, 0)) (by (with_reducible repeat (first | refine blk_drewN ?_ _ | refine blk_drew ?_ | refine blk_alloc ?_ _)); refine blk_put (cs := #[.int .i64 t934, .int .i64 0]) ?_ 1 _ rfl; (with_reducible repeat (first | refine blk_drewN ?_ _ | refine blk_drew ?_ | refine blk_alloc ?_ _)); refine blk_put (cs := #[.int .i64 0, .int .i64 0]) ?_ 0 _ rfl; (with_reducible repeat (first | refine blk_drewN ?_ _ | refine blk_drew ?_ | refine blk_alloc ?_ _)); exact BK937.out) hb); have n9_ := Aside0.mk (below_step (bl_ HB.out) hb); clear HO922; clear HO925; clear HO928; clear BK915; clear BK916; clear BK917; clear BK929; clear BK933; clear BK937; clear HB; have HO922 := n0_; have HO925 := n1_; have HO928 := n2_; have BK915 := n3_; have BK916 := n4_; have BK917 := n5_; have BK929 := n6_; have BK933 := n7_; have BK937 := n8_; have HB := n9_; clear n0_ n1_ n2_ n3_ n4_ n5_ n6_ n7_ n8_ n9_; (try clear hb); (try clear hb2); (try clear hk); (try clear hi)))
          go_meet
          case rel => exact ⟨_, (!t938), (by first | rfl | (simp; done) | (simp [*]; done)), H', ⟨by first | omega | exact Nat.le_refl _⟩, ⟨by (with_reducible repeat (first | apply Kd.R_alloc | apply Kd.R_drewN | apply Kd.R_drew)); exact HO922.out⟩, ⟨by (with_reducible repeat (first | apply Kd.R_alloc | apply Kd.R_drewN | apply Kd.R_drew)); exact HO925.out⟩, ⟨by (with_reducible repeat (first | apply Kd.S_alloc | apply Kd.S_drewN | apply Kd.S_drew)); exact HO928.out⟩, ⟨bk_ BK915.out⟩, ⟨bk_ BK916.out⟩, ⟨bk_ BK917.out⟩, ⟨bk_ BK929.out⟩, ⟨bk_ BK933.out⟩, ⟨bk_ BK937.out⟩, ⟨bl_ HB.out⟩⟩
        · rw [if_neg c67] at H
          have c67b0 : (t932 == t936) = false := beq_eq_false_iff_ne.mpr c67
          have c67b1 : (t932 != t936) = true := bne_iff_ne.mpr c67
          have H' := Aside0.mk H
          clear H
          have hnb88 := NB933_915.out
          have hnc88 := NB915_933.out
          have hnb89 := NB933_916.out
          have hnc89 := NB916_933.out
          have hnb90 := NB933_917.out
          have hnc90 := NB917_933.out
          have hnb91 := NB933_929.out
          have hnc91 := NB929_933.out
          have hnb92 := NB933_937.out
          have hnc92 := NB937_933.out
          have hcz93_0 : w48.cell? ⟨gb933, 0, none⟩ = some (.int .i64 t930) := (blk_cell BK933.out 0).trans rfl
          have hcz93_1 : w48.cell? ⟨gb933, 1, none⟩ = some (.int .i64 t931) := (blk_cell BK933.out 1).trans rfl
          have hfz93_0 := blk_frozen BK933.out 0
          have hfz93_1 := blk_frozen BK933.out 1
          have hnb94 := NB937_915.out
          have hnc94 := NB915_937.out
          have hnb95 := NB937_916.out
          have hnc95 := NB916_937.out
          have hnb96 := NB937_917.out
          have hnc96 := NB917_937.out
          have hnb97 := NB937_929.out
          have hnc97 := NB929_937.out
          have hcz98_0 : w48.cell? ⟨gb937, 0, none⟩ = some (.int .i64 0) := (blk_cell BK937.out 0).trans rfl
          have hcz98_1 : w48.cell? ⟨gb937, 1, none⟩ = some (.int .i64 0) := (blk_cell BK937.out 1).trans rfl
          have hfz98_0 := blk_frozen BK937.out 0
          have hfz98_1 := blk_frozen BK937.out 1
          go_wp2
          go_meet
          case rel => exact ⟨_, (true), (by first | rfl | (simp; done) | (simp [*]; done)), H', ⟨by first | omega | exact Nat.le_refl _⟩, ⟨by (with_reducible repeat (first | apply Kd.R_alloc | apply Kd.R_drewN | apply Kd.R_drew)); exact Kd.R_mono (Kd.R_far (p := ⟨gb937, 1, none⟩) (Kd.R_far (p := ⟨gb937, 0, none⟩) (Kd.R_types HO922.out BK937.out (by decide)) (fun _ hk => hk.2) (.int .i64 t934)) (fun _ hk => hk.2) (.int .i64 t935)) (fun _ hk => hk.1)⟩, ⟨by (with_reducible repeat (first | apply Kd.R_alloc | apply Kd.R_drewN | apply Kd.R_drew)); exact Kd.R_mono (Kd.R_far (p := ⟨gb937, 1, none⟩) (Kd.R_far (p := ⟨gb937, 0, none⟩) (Kd.R_types HO925.out BK937.out (by decide)) (fun _ hk => hk.2) (.int .i64 t934)) (fun _ hk => hk.2) (.int .i64 t935)) (fun _ hk => hk.1)⟩, ⟨by (with_reducible repeat (first | apply Kd.S_alloc | apply Kd.S_drewN | apply Kd.S_drew)); exact Kd.S_mono (Kd.S_far (p := ⟨gb937, 1, none⟩) (Kd.S_far (p := ⟨gb937, 0, none⟩) (Kd.S_types HO928.out BK937.out (by decide)) (fun _ hk => hk.2) (.int .i64 t934)) (fun _ hk => hk.2) (.int .i64 t935)) (fun _ hk => ⟨hk.1.1, hk.1.2⟩)⟩, ⟨by (with_reducible repeat (first | refine blk_drewN ?_ _ | refine blk_drew ?_ | refine blk_alloc ?_ _)); refine blk_far ?_ NB915_937.out _; (with_reducible repeat (first | refine blk_drewN ?_ _ | refine blk_drew ?_ | refine blk_alloc ?_ _)); refine blk_far ?_ NB915_937.out _; (with_reducible repeat (first | refine blk_drewN ?_ _ | refine blk_drew ?_ | refine blk_alloc ?_ _)); exact BK915.out⟩, ⟨by (with_reducible repeat (first | refine blk_drewN ?_ _ | refine blk_drew ?_ | refine blk_alloc ?_ _)); refine blk_far ?_ NB916_937.out _; (with_reducible repeat (first | refine blk_drewN ?_ _ | refine blk_drew ?_ | refine blk_alloc ?_ _)); refine blk_far ?_ NB916_937.out _; (with_reducible repeat (first | refine blk_drewN ?_ _ | refine blk_drew ?_ | refine blk_alloc ?_ _)); exact BK916.out⟩, ⟨by (with_reducible repeat (first | refine blk_drewN ?_ _ | refine blk_drew ?_ | refine blk_alloc ?_ _)); refine blk_far ?_ NB917_937.out _; (with_reducible repeat (first | refine blk_drewN ?_ _ | refine blk_drew ?_ | refine blk_alloc ?_ _)); refine blk_far ?_ NB917_937.out _; (with_reducible repeat (first | refine blk_drewN ?_ _ | refine blk_drew ?_ | refine blk_alloc ?_ _)); exact BK917.out⟩, ⟨by (with_reducible repeat (first | refine blk_drewN ?_ _ | refine blk_drew ?_ | refine blk_alloc ?_ _)); refine blk_far ?_ NB929_937.out _; (with_reducible repeat (first | refine blk_drewN ?_ _ | refine blk_drew ?_ | refine blk_alloc ?_ _)); refine blk_far ?_ NB929_937.out _; (with_reducible repeat (first | refine blk_drewN ?_ _ | refine blk_drew ?_ | refine blk_alloc ?_ _)); exact BK929.out⟩, ⟨by (with_reducible repeat (first | refine blk_drewN ?_ _ | refine blk_drew ?_ | refine blk_alloc ?_ _)); refine blk_far ?_ NB933_937.out _; (with_reducible repeat (first | refine blk_drewN ?_ _ | refine blk_drew ?_ | refine blk_alloc ?_ _)); refine blk_far ?_ NB933_937.out _; (with_reducible repeat (first | refine blk_drewN ?_ _ | refine blk_drew ?_ | refine blk_alloc ?_ _)); exact BK933.out⟩, ⟨by (with_reducible repeat (first | refine blk_drewN ?_ _ | refine blk_drew ?_ | refine blk_alloc ?_ _)); refine blk_put (cs := #[.int .i64 t934, .int .i64 0]) ?_ 1 _ rfl; (with_reducible repeat (first | refine blk_drewN ?_ _ | refine blk_drew ?_ | refine blk_alloc ?_ _)); refine blk_put (cs := #[.int .i64 0, .int .i64 0]) ?_ 0 _ rfl; (with_reducible repeat (first | refine blk_drewN ?_ _ | refine blk_drew ?_ | refine blk_alloc ?_ _)); exact BK937.out⟩, ⟨bl_ HB.out⟩⟩
    case rest =>
      clear HC18
      try clear c1
      try clear c2
      try clear p2
      try clear c3
      try clear c4
      try clear c5
      try clear c6
      try clear c7
      try clear c8
      try clear c9
      try clear c10
      try clear c11
      try clear c20
      try clear c22
      try clear c23
      try clear c24
      try clear c30
      try clear c31
      try clear c32
      try clear c34
      try clear c35
      try clear c36
      try clear c40
      try clear c41
      try clear c42
      try clear c43
      try clear c49
      try clear c50
      try clear c51
      try clear c52
      try clear c53
      try clear c55
      try clear c55b0
      try clear c56
      try clear c57
      try clear c58
      try clear c59
      try clear c60
      try clear c62
      try clear c63
      try clear c64
      try clear c65
      try clear c67
      try clear c67b0
      try clear c67b1
      try clear c69
      try clear c70
      try clear c71
      try clear c72
      try clear c73
      try clear c75
      try clear c76
      try clear c77
      try clear c78
      try clear c80
      try clear c81
      try clear c82
      try clear c84
      try clear c85
      try clear c88
      try clear c89
      try clear c90
      try clear c91
      try clear c92
      try clear c94
      try clear c95
      try clear c96
      try clear c97
      try clear hcz12_0
      try clear hcz12_1
      try clear hcz12_2
      try clear hcz24_0
      try clear hcz24_1
      try clear hcz24_2
      try clear hcz26_0
      try clear hcz26_1
      try clear hcz26_2
      try clear hcz33_0
      try clear hcz33_1
      try clear hcz33_2
      try clear hcz37_0
      try clear hcz37_1
      try clear hcz44_0
      try clear hcz44_1
      try clear hcz45_0
      try clear hcz45_1
      try clear hcz45_2
      try clear hcz46_0
      try clear hcz46_1
      try clear hcz54_0
      try clear hcz54_1
      try clear hcz61_0
      try clear hcz61_1
      try clear hcz66_0
      try clear hcz66_1
      try clear hcz74_0
      try clear hcz74_1
      try clear hcz79_0
      try clear hcz79_1
      try clear hcz83_0
      try clear hcz83_1
      try clear hcz83_2
      try clear hcz86_0
      try clear hcz86_1
      try clear hcz86_2
      try clear hcz93_0
      try clear hcz93_1
      try clear hcz98_0
      try clear hcz98_1
      try clear hfz12_0
      try clear hfz12_1
      try clear hfz12_2
      try clear hfz24_0
      try clear hfz24_1
      try clear hfz24_2
      try clear hfz26_0
      try clear hfz26_1
      try clear hfz26_2
      try clear hfz33_0
      try clear hfz33_1
      try clear hfz33_2
      try clear hfz37_0
      try clear hfz37_1
      try clear hfz44_0
      try clear hfz44_1
      try clear hfz45_0
      try clear hfz45_1
      try clear hfz45_2
      try clear hfz46_0
      try clear hfz46_1
      try clear hfz54_0
      try clear hfz54_1
      try clear hfz61_0
      try clear hfz61_1
      try clear hfz66_0
      try clear hfz66_1
      try clear hfz74_0
      try clear hfz74_1
      try clear hfz79_0
      try clear hfz79_1
      try clear hfz83_0
      try clear hfz83_1
      try clear hfz83_2
      try clear hfz86_0
      try clear hfz86_1
      try clear hfz86_2
      try clear hfz93_0
      try clear hfz93_1
      try clear hfz98_0
      try clear hfz98_1
      obtain ⟨kq, x51_17, rfl, HA, HJ17, HO_930000, HO_930001, HO_930002, BK915, BK916, BK917, BK929, BK933, BK937, HB⟩ := hcut
      cases kq with
      | zero => exact absurd HA.out (by simp [swashplatelaw01_SpansValues.j0])
      | succ kj17 =>
        have H := HA.out
        clear HA
        simp only [swashplatelaw01_SpansValues.j0] at H
        by_cases c99 : x51_17 = true
        · subst c99
          have H1 : (some false) = some r := by rw [if_pos rfl] at H; exact H
          clear H
          have H := H1
          clear H1
          exact absurd ((Option.some.inj H).trans hrT.out) (by decide)
        · replace c99 := Bool.eq_false_iff.mpr c99
          subst c99
          have H1 : ((swashplateref01_CheckTable.f kj17 l0_0 l0_1 l0_2).bind fun t939 => (if t939 = 0 then ((swashplateref01_From.f a2_0 0 (wrap64 ((l0_0.length : Int) - 1))).bind fun t940 => (if t940 = true then ((swashplateref01_From.f a2_1 0 (wrap64 ((l0_1.length : Int) - 1))).bind fun t941 => (swashplatelaw01_SpansValues.j1 kj17 (!t941) l0_0 l0_1 l0_2 a2_0 a2_1 t920 t923 t926)) else (swashplatelaw01_SpansValues.j1 kj17 true l0_0 l0_1 l0_2 a2_0 a2_1 t920 t923 t926))) else (swashplatelaw01_SpansValues.j1 kj17 true l0_0 l0_1 l0_2 a2_0 a2_1 t920 t923 t926))) = some r := by rw [if_neg (show ¬ (false = true) by decide)] at H; exact H
          clear H
          have H := H1
          clear H1
          have HC100 := Aside0.mk H
          clear H
          go_upto_region 8 with (fail)
          go_cut [74] (fun v74 wc => ∃ (kq : Nat) (x74_99 : Bool), v74 = .bool x74_99 ∧ Aside0 (swashplatelaw01_SpansValues.j1 kq x74_99 l0_0 l0_1 l0_2 a2_0 a2_1 t920 t923 t926 = some r) ∧ Aside0 (kq ≤ kj17) ∧ Aside0 (Kd.R (Kd.int .i64) 3 wc w.heap.size (fun k_ => some k_ ≠ ((.slice Ao34 t923.length co34) : Value).ownBlock) (.slice Ao29 t920.length co29) t920) ∧ Aside0 (Kd.R (Kd.int .i64) 3 wc w.heap.size (fun k_ => some k_ ≠ ((.slice Ao29 t920.length co29) : Value).ownBlock) (.slice Ao34 t923.length co34) t923) ∧ Aside0 (Kd.S (Kd.slice 3 (Kd.int .i64)) 22 wc w.heap.size (fun k_ => some k_ ≠ ((.slice Ao29 t920.length co29) : Value).ownBlock ∧ some k_ ≠ ((.slice Ao34 t923.length co34) : Value).ownBlock) (.slice Ao35 t926.length co35) t926) ∧ Aside0 (wc.heap[gb915]? = some (.cells #[(.slice A0_0 l0_0.length c0_0), (.slice A0_1 l0_1.length c0_1), (.slice A0_2 l0_2.length c0_2)] 25 (0, 0))) ∧ Aside0 (wc.heap[gb916]? = some (.cells #[.int .i64 a1_0, .int .i64 a1_1] 50 (0, 0))) ∧ Aside0 (wc.heap[gb917]? = some (.cells #[.int .i64 a2_0, .int .i64 a2_1] 28 (0, 0))) ∧ Aside0 (wc.heap[gb929]? = some (.cells #[(.slice Ao29 t920.length co29), (.slice Ao34 t923.length co34), (.slice Ao35 t926.length co35)] 25 (0, 0))) ∧ Aside0 (wc.heap[gb933]? = some (.cells #[.int .i64 t930, .int .i64 t931] 27 (0, 0))) ∧ Aside0 (wc.heap[gb937]? = some (.cells #[.int .i64 t934, .int .i64 t935] 27 (0, 0))) ∧ Aside0 (Below w.heap.size w wc))
          case first =>
            have H := HC100.out
            clear HC100
            replace H := Option.bind_eq_some_iff.mp H
            obtain ⟨t939, A1010, H⟩ := H
            replace H : (if t939 = 0 then ((swashplateref01_From.f a2_0 0 (wrap64 ((l0_0.length : Int) - 1))).bind fun t940 => (if t940 = true then ((swashplateref01_From.f a2_1 0 (wrap64 ((l0_1.length : Int) - 1))).bind fun t941 => (swashplatelaw01_SpansValues.j1 kj17 (!t941) l0_0 l0_1 l0_2 a2_0 a2_1 t920 t923 t926)) else (swashplatelaw01_SpansValues.j1 kj17 true l0_0 l0_1 l0_2 a2_0 a2_1 t920 t923 t926))) else (swashplatelaw01_SpansValues.j1 kj17 true l0_0 l0_1 l0_2 a2_0 a2_1 t920 t923 t926)) = some r := H
            have A101 := Aside0.mk A1010
            clear A1010
            by_cases c102 : t939 = 0
            · rw [if_pos c102] at H
              have c102b0 : (t939 == 0) = true := beq_iff_eq.mpr c102
              have c102b1 : (t939 != 0) = false := bne_eq_false_iff_eq.mpr c102
              clear c102
              (first | rw [c102b0] | (simp only [i64_w, i32_w]; rw [c102b0]) | skip)
              replace H := Option.bind_eq_some_iff.mp H
              obtain ⟨t940, A1030, H⟩ := H
              replace H : (if t940 = true then ((swashplateref01_From.f a2_1 0 (wrap64 ((l0_1.length : Int) - 1))).bind fun t941 => (swashplatelaw01_SpansValues.j1 kj17 (!t941) l0_0 l0_1 l0_2 a2_0 a2_1 t920 t923 t926)) else (swashplatelaw01_SpansValues.j1 kj17 true l0_0 l0_1 l0_2 a2_0 a2_1 t920 t923 t926)) = some r := H
              have A103 := Aside0.mk A1030
              clear A1030
              by_cases c104 : t940 = true
              · subst c104
                have H1 : ((swashplateref01_From.f a2_1 0 (wrap64 ((l0_1.length : Int) - 1))).bind fun t941 => (swashplatelaw01_SpansValues.j1 kj17 (!t941) l0_0 l0_1 l0_2 a2_0 a2_1 t920 t923 t926)) = some r := by rw [if_pos rfl] at H; exact H
                clear H
                have H := H1
                clear H1
                replace H := Option.bind_eq_some_iff.mp H
                obtain ⟨t941, A1050, H⟩ := H
                replace H : (swashplatelaw01_SpansValues.j1 kj17 (!t941) l0_0 l0_1 l0_2 a2_0 a2_1 t920 t923 t926) = some r := H
                have A105 := Aside0.mk A1050
                clear A1050
                have H' := Aside0.mk H
                clear H
                have hnb106 := NB915_916.out
                have hnc106 := NB916_915.out
                have hnb107 := NB915_917.out
                have hnc107 := NB917_915.out
                have hnb108 := NB915_929.out
                have hnc108 := NB929_915.out
                have hnb109 := NB915_933.out
                have hnc109 := NB933_915.out
                have hnb110 := NB915_937.out
                have hnc110 := NB937_915.out
                have hcz111_0 : wc.cell? ⟨gb915, 0, none⟩ = some (.slice A0_0 l0_0.length c0_0) := (blk_cell BK915.out 0).trans rfl
                have hcz111_1 : wc.cell? ⟨gb915, 1, none⟩ = some (.slice A0_1 l0_1.length c0_1) := (blk_cell BK915.out 1).trans rfl
                have hcz111_2 : wc.cell? ⟨gb915, 2, none⟩ = some (.slice A0_2 l0_2.length c0_2) := (blk_cell BK915.out 2).trans rfl
                have hfz111_0 := blk_frozen BK915.out 0
                have hfz111_1 := blk_frozen BK915.out 1
                have hfz111_2 := blk_frozen BK915.out 2
                go_wp2_with (first | ((with_reducible refine gate_callee (f := 21) rfl ?_); refine goesL_ (some 53) rfl rfl Try.func21 (by kernel_rfl) rfl #[.agg #[.slice A0_0 l0_0.length c0_0, .slice A0_1 l0_1.length c0_1, .slice A0_2 l0_2.length c0_2]] rfl (by (try simp only [List.map_toArray, List.map_cons, List.map_nil]); first | done | rfl | (simp only [List.length_drop, List.length_take]; rfl)) ?_; (with_reducible refine (swashplateref01_CheckTable.calls kj17 _ _ l0_0 _ _ l0_1 _ _ l0_2 t939 _ ?side1 ?side2 ?side3 ?side4 ?side5 ?side6 A101.out).mono ?_); (case side1 => exact cr_ (Kd.C_below HR0_0.out HB.out)); (case side2 => exact HC0_0.out); (case side3 => exact cr_ (Kd.C_below HR0_1.out HB.out)); (case side4 => exact HC0_1.out); (case side5 => exact cr_ (Kd.C_below HR0_2.out HB.out)); (case side6 => exact HC0_2.out); rintro e w112 ⟨rfl, hb⟩; refine ⟨_, rfl, ?_⟩; have n0_ := Aside0.mk (Kd.R_below (by (with_reducible repeat (first | apply Kd.R_alloc | apply Kd.R_drewN | apply Kd.R_drew)); exact HO_930000.out) hb); have n1_ := Aside0.mk (Kd.R_below (by (with_reducible repeat (first | apply Kd.R_alloc | apply Kd.R_drewN | apply Kd.R_drew)); exact HO_930001.out) hb); have n2_ := Aside0.mk (Kd.S_below (by (with_reducible repeat (first | apply Kd.S_alloc | apply Kd.S_drewN | apply Kd.S_drew)); exact HO_930002.out) hb); have n3_ := Aside0.mk (blk_below (g := gb915) (o := .cells #[.slice A0_0 l0_0.length c0_0, .slice A0_1 l0_1.length c0_1, .slice A0_2 l0_2.length c0_2] 25 (0, 0)) (bk_ BK915.out) hb); have n4_ := Aside0.mk (blk_below (g := gb916) (o := .cells #[.int .i64 a1_0, .int .i64 a1_1] 50 (0, 0)) (bk_ BK916.out) hb); have n5_ := Aside0.mk (blk_below (g := gb917) (o := .cells #[.int .i64 a2_0, .int .i64 a2_1] 28 (0, 0)) (bk_ BK917.out) hb); have n6_ := Aside0.mk (blk_below (g := gb929) (o := .cells #[.slice Ao29 t920.length co29, .slice Ao34 t923.length co34, .slice Ao35 t926.length co35] 25 (0, 0)) (bk_ BK929.out) hb); have n7_ := Aside0.mk (blk_below (g := gb933) (o := .cells #[.int .i64 t930, .int .i64 t931] 27 (0, 0)) (bk_ BK933.out) hb); have n8_ := Aside0.mk (blk_below (g := gb937) (o := .cells #[.int .i64 t934, .int .i64 t935] 27 (0, 0)) (bk_ BK937.out) hb); have n9_ := Aside0.mk (below_step (bl_ HB.out) hb); clear HO_930000; clear HO_930001; clear HO_930002; clear BK915; clear BK916; clear BK917; clear BK929; clear BK933; clear BK937; clear HB; have HO_930000 := n0_; have HO_930001 := n1_; have HO_930002 := n2_; have BK915 := n3_; have BK916 := n4_; have BK917 := n5_; have BK929 := n6_; have BK933 := n7_; have BK937 := n8_; have HB := n9_; clear n0_ n1_ n2_ n3_ n4_ n5_ n6_ n7_ n8_ n9_; (try clear hb); (try clear hb2); (try clear hk); (try clear hi); have hnb113 := NB917_916.out; have hnc113 := NB916_917.out; have hnb114 := NB917_929.out; have hnc114 := NB929_917.out; have hnb115 := NB917_933.out; have hnc115 := NB933_917.out; have hnb116 := NB917_937.out; have hnc116 := NB937_917.out; have hcz117_0 : w112.cell? ⟨gb917, 0, none⟩ = some (.int .i64 a2_0) := (blk_cell BK917.out 0).trans rfl; have hcz117_1 : w112.cell? ⟨gb917, 1, none⟩ = some (.int .i64 a2_1) := (blk_cell BK917.out 1).trans rfl; have hfz117_0 := blk_frozen BK917.out 0; have hfz117_1 := blk_frozen BK917.out 1; have hcz118_0 : w112.cell? ⟨gb915, 0, none⟩ = some (.slice A0_0 l0_0.length c0_0) := (blk_cell BK915.out 0).trans rfl; have hcz118_1 : w112.cell? ⟨gb915, 1, none⟩ = some (.slice A0_1 l0_1.length c0_1) := (blk_cell BK915.out 1).trans rfl; have hcz118_2 : w112.cell? ⟨gb915, 2, none⟩ = some (.slice A0_2 l0_2.length c0_2) := (blk_cell BK915.out 2).trans rfl; have hfz118_0 := blk_frozen BK915.out 0; have hfz118_1 := blk_frozen BK915.out 1; have hfz118_2 := blk_frozen BK915.out 2) | (go_at_call 37; (with_reducible refine (swashplateref01_From.calls a2_0 0 (wrap64 ((l0_0.length : Int) - 1)) true _ A103.out).mono ?_); rintro e w' ⟨rfl, ⟨nd, rfl⟩⟩) | (go_at_call 37; (with_reducible refine (swashplateref01_From.calls a2_1 0 (wrap64 ((l0_1.length : Int) - 1)) t941 _ A105.out).mono ?_); rintro e w' ⟨rfl, ⟨nd, rfl⟩⟩))
                go_meet
                case rel => exact ⟨_, (!t941), (by first | rfl | (simp; done) | (simp [*]; done)), H', ⟨by have := HJ17.out; first | omega | exact Nat.le_refl _⟩, ⟨by (with_reducible repeat (first | apply Kd.R_alloc | apply Kd.R_drewN | apply Kd.R_drew)); exact HO_930000.out⟩, ⟨by (with_reducible repeat (first | apply Kd.R_alloc | apply Kd.R_drewN | apply Kd.R_drew)); exact HO_930001.out⟩, ⟨by (with_reducible repeat (first | apply Kd.S_alloc | apply Kd.S_drewN | apply Kd.S_drew)); exact HO_930002.out⟩, ⟨bk_ BK915.out⟩, ⟨bk_ BK916.out⟩, ⟨bk_ BK917.out⟩, ⟨bk_ BK929.out⟩, ⟨bk_ BK933.out⟩, ⟨bk_ BK937.out⟩, ⟨bl_ HB.out⟩⟩
              · replace c104 := Bool.eq_false_iff.mpr c104
                subst c104
                have H1 : (swashplatelaw01_SpansValues.j1 kj17 true l0_0 l0_1 l0_2 a2_0 a2_1 t920 t923 t926) = some r := by rw [if_neg (show ¬ (false = true) by decide)] at H; exact H
                clear H
                have H := H1
                clear H1
                have H' := Aside0.mk H
                clear H
                have hnb119 := NB915_916.out
                have hnc119 := NB916_915.out
                have hnb120 := NB915_917.out
                have hnc120 := NB917_915.out
                have hnb121 := NB915_929.out
                have hnc121 := NB929_915.out
                have hnb122 := NB915_933.out
                have hnc122 := NB933_915.out
                have hnb123 := NB915_937.out
                have hnc123 := NB937_915.out
                have hcz124_0 : wc.cell? ⟨gb915, 0, none⟩ = some (.slice A0_0 l0_0.length c0_0) := (blk_cell BK915.out 0).trans rfl
                have hcz124_1 : wc.cell? ⟨gb915, 1, none⟩ = some (.slice A0_1 l0_1.length c0_1) := (blk_cell BK915.out 1).trans rfl
                have hcz124_2 : wc.cell? ⟨gb915, 2, none⟩ = some (.slice A0_2 l0_2.length c0_2) := (blk_cell BK915.out 2).trans rfl
                have hfz124_0 := blk_frozen BK915.out 0
                have hfz124_1 := blk_frozen BK915.out 1
                have hfz124_2 := blk_frozen BK915.out 2
                go_wp2_with (first | ((with_reducible refine gate_callee (f := 21) rfl ?_); refine goesL_ (some 53) rfl rfl Try.func21 (by kernel_rfl) rfl #[.agg #[.slice A0_0 l0_0.length c0_0, .slice A0_1 l0_1.length c0_1, .slice A0_2 l0_2.length c0_2]] rfl (by (try simp only [List.map_toArray, List.map_cons, List.map_nil]); first | done | rfl | (simp only [List.length_drop, List.length_take]; rfl)) ?_; (with_reducible refine (swashplateref01_CheckTable.calls kj17 _ _ l0_0 _ _ l0_1 _ _ l0_2 t939 _ ?side1 ?side2 ?side3 ?side4 ?side5 ?side6 A101.out).mono ?_); (case side1 => exact cr_ (Kd.C_below HR0_0.out HB.out)); (case side2 => exact HC0_0.out); (case side3 => exact cr_ (Kd.C_below HR0_1.out HB.out)); (case side4 => exact HC0_1.out); (case side5 => exact cr_ (Kd.C_below HR0_2.out HB.out)); (case side6 => exact HC0_2.out); rintro e w125 ⟨rfl, hb⟩; refine ⟨_, rfl, ?_⟩; have n0_ := Aside0.mk (Kd.R_below (by (with_reducible repeat (first | apply Kd.R_alloc | apply Kd.R_drewN | apply Kd.R_drew)); exact HO_930000.out) hb); have n1_ := Aside0.mk (Kd.R_below (by (with_reducible repeat (first | apply Kd.R_alloc | apply Kd.R_drewN | apply Kd.R_drew)); exact HO_930001.out) hb); have n2_ := Aside0.mk (Kd.S_below (by (with_reducible repeat (first | apply Kd.S_alloc | apply Kd.S_drewN | apply Kd.S_drew)); exact HO_930002.out) hb); have n3_ := Aside0.mk (blk_below (g := gb915) (o := .cells #[.slice A0_0 l0_0.length c0_0, .slice A0_1 l0_1.length c0_1, .slice A0_2 l0_2.length c0_2] 25 (0, 0)) (bk_ BK915.out) hb); have n4_ := Aside0.mk (blk_below (g := gb916) (o := .cells #[.int .i64 a1_0, .int .i64 a1_1] 50 (0, 0)) (bk_ BK916.out) hb); have n5_ := Aside0.mk (blk_below (g := gb917) (o := .cells #[.int .i64 a2_0, .int .i64 a2_1] 28 (0, 0)) (bk_ BK917.out) hb); have n6_ := Aside0.mk (blk_below (g := gb929) (o := .cells #[.slice Ao29 t920.length co29, .slice Ao34 t923.length co34, .slice Ao35 t926.length co35] 25 (0, 0)) (bk_ BK929.out) hb); have n7_ := Aside0.mk (blk_below (g := gb933) (o := .cells #[.int .i64 t930, .int .i64 t931] 27 (0, 0)) (bk_ BK933.out) hb); have n8_ := Aside0.mk (blk_below (g := gb937) (o := .cells #[.int .i64 t934, .int .i64 t935] 27 (0, 0)) (bk_ BK937.out) hb); have n9_ := Aside0.mk (below_step (bl_ HB.out) hb); clear HO_930000; clear HO_930001; clear HO_930002; clear BK915; clear BK916; clear BK917; clear BK929; clear BK933; clear BK937; clear HB; have HO_930000 := n0_; have HO_930001 := n1_; have HO_930002 := n2_; have BK915 := n3_; have BK916 := n4_; have BK917 := n5_; have BK929 := n6_; have BK933 := n7_; have BK937 := n8_; have HB := n9_; clear n0_ n1_ n2_ n3_ n4_ n5_ n6_ n7_ n8_ n9_; (try clear hb); (try clear hb2); (try clear hk); (try clear hi); have hnb126 := NB917_916.out; have hnc126 := NB916_917.out; have hnb127 := NB917_929.out; have hnc127 := NB929_917.out; have hnb128 := NB917_933.out; have hnc128 := NB933_917.out; have hnb129 := NB917_937.out; have hnc129 := NB937_917.out; have hcz130_0 : w125.cell? ⟨gb917, 0, none⟩ = some (.int .i64 a2_0) := (blk_cell BK917.out 0).trans rfl; have hcz130_1 : w125.cell? ⟨gb917, 1, none⟩ = some (.int .i64 a2_1) := (blk_cell BK917.out 1).trans rfl; have hfz130_0 := blk_frozen BK917.out 0; have hfz130_1 := blk_frozen BK917.out 1; have hcz131_0 : w125.cell? ⟨gb915, 0, none⟩ = some (.slice A0_0 l0_0.length c0_0) := (blk_cell BK915.out 0).trans rfl; have hcz131_1 : w125.cell? ⟨gb915, 1, none⟩ = some (.slice A0_1 l0_1.length c0_1) := (blk_cell BK915.out 1).trans rfl; have hcz131_2 : w125.cell? ⟨gb915, 2, none⟩ = some (.slice A0_2 l0_2.length c0_2) := (blk_cell BK915.out 2).trans rfl; have hfz131_0 := blk_frozen BK915.out 0; have hfz131_1 := blk_frozen BK915.out 1; have hfz131_2 := blk_frozen BK915.out 2) | (go_at_call 37; (with_reducible refine (swashplateref01_From.calls a2_0 0 (wrap64 ((l0_0.length : Int) - 1)) false _ A103.out).mono ?_); rintro e w' ⟨rfl, ⟨nd, rfl⟩⟩))
                go_meet
                case rel => exact ⟨_, (true), (by first | rfl | (simp; done) | (simp [*]; done)), H', ⟨by have := HJ17.out; first | omega | exact Nat.le_refl _⟩, ⟨by (with_reducible repeat (first | apply Kd.R_alloc | apply Kd.R_drewN | apply Kd.R_drew)); exact HO_930000.out⟩, ⟨by (with_reducible repeat (first | apply Kd.R_alloc | apply Kd.R_drewN | apply Kd.R_drew)); exact HO_930001.out⟩, ⟨by (with_reducible repeat (first | apply Kd.S_alloc | apply Kd.S_drewN | apply Kd.S_drew)); exact HO_930002.out⟩, ⟨bk_ BK915.out⟩, ⟨bk_ BK916.out⟩, ⟨bk_ BK917.out⟩, ⟨bk_ BK929.out⟩, ⟨bk_ BK933.out⟩, ⟨bk_ BK937.out⟩, ⟨bl_ HB.out⟩⟩
            · rw [if_neg c102] at H
              have c102b0 : (t939 == 0) = false := beq_eq_false_iff_ne.mpr c102
              have c102b1 : (t939 != 0) = true := bne_iff_ne.mpr c102
              (first | rw [c102b0] | (simp only [i64_w, i32_w]; rw [c102b0]) | skip)
              have H' := Aside0.mk H
              clear H
              have hnb132 := NB915_916.out
              have hnc132 := NB916_915.out
              have hnb133 := NB915_917.out
              have hnc133 := NB917_915.out
              have hnb134 := NB915_929.out
              have hnc134 := NB929_915.out
              have hnb135 := NB915_933.out
              have hnc135 := NB933_915.out
              have hnb136 := NB915_937.out
              have hnc136 := NB937_915.out
              have hcz137_0 : wc.cell? ⟨gb915, 0, none⟩ = some (.slice A0_0 l0_0.length c0_0) := (blk_cell BK915.out 0).trans rfl
              have hcz137_1 : wc.cell? ⟨gb915, 1, none⟩ = some (.slice A0_1 l0_1.length c0_1) := (blk_cell BK915.out 1).trans rfl
              have hcz137_2 : wc.cell? ⟨gb915, 2, none⟩ = some (.slice A0_2 l0_2.length c0_2) := (blk_cell BK915.out 2).trans rfl
              have hfz137_0 := blk_frozen BK915.out 0
              have hfz137_1 := blk_frozen BK915.out 1
              have hfz137_2 := blk_frozen BK915.out 2
              go_wp2_with (first | ((with_reducible refine gate_callee (f := 21) rfl ?_); refine goesL_ (some 53) rfl rfl Try.func21 (by kernel_rfl) rfl #[.agg #[.slice A0_0 l0_0.length c0_0, .slice A0_1 l0_1.length c0_1, .slice A0_2 l0_2.length c0_2]] rfl (by (try simp only [List.map_toArray, List.map_cons, List.map_nil]); first | done | rfl | (simp only [List.length_drop, List.length_take]; rfl)) ?_; (with_reducible refine (swashplateref01_CheckTable.calls kj17 _ _ l0_0 _ _ l0_1 _ _ l0_2 t939 _ ?side1 ?side2 ?side3 ?side4 ?side5 ?side6 A101.out).mono ?_); (case side1 => exact cr_ (Kd.C_below HR0_0.out HB.out)); (case side2 => exact HC0_0.out); (case side3 => exact cr_ (Kd.C_below HR0_1.out HB.out)); (case side4 => exact HC0_1.out); (case side5 => exact cr_ (Kd.C_below HR0_2.out HB.out)); (case side6 => exact HC0_2.out); rintro e w138 ⟨rfl, hb⟩; refine ⟨_, rfl, ?_⟩; have n0_ := Aside0.mk (Kd.R_below (by (with_reducible repeat (first | apply Kd.R_alloc | apply Kd.R_drewN | apply Kd.R_drew)); exact HO_930000.out) hb); have n1_ := Aside0.mk (Kd.R_below (by (with_reducible repeat (first | apply Kd.R_alloc | apply Kd.R_drewN | apply Kd.R_drew)); exact HO_930001.out) hb); have n2_ := Aside0.mk (Kd.S_below (by (with_reducible repeat (first | apply Kd.S_alloc | apply Kd.S_drewN | apply Kd.S_drew)); exact HO_930002.out) hb); have n3_ := Aside0.mk (blk_below (g := gb915) (o := .cells #[.slice A0_0 l0_0.length c0_0, .slice A0_1 l0_1.length c0_1, .slice A0_2 l0_2.length c0_2] 25 (0, 0)) (bk_ BK915.out) hb); have n4_ := Aside0.mk (blk_below (g := gb916) (o := .cells #[.int .i64 a1_0, .int .i64 a1_1] 50 (0, 0)) (bk_ BK916.out) hb); have n5_ := Aside0.mk (blk_below (g := gb917) (o := .cells #[.int .i64 a2_0, .int .i64 a2_1] 28 (0, 0)) (bk_ BK917.out) hb); have n6_ := Aside0.mk (blk_below (g := gb929) (o := .cells #[.slice Ao29 t920.length co29, .slice Ao34 t923.length co34, .slice Ao35 t926.length co35] 25 (0, 0)) (bk_ BK929.out) hb); have n7_ := Aside0.mk (blk_below (g := gb933) (o := .cells #[.int .i64 t930, .int .i64 t931] 27 (0, 0)) (bk_ BK933.out) hb); have n8_ := Aside0.mk (blk_below (g := gb937) (o := .cells #[.int .i64 t934, .int .i64 t935] 27 (0, 0)) (bk_ BK937.out) hb); have n9_ := Aside0.mk (below_step (bl_ HB.out) hb); clear HO_930000; clear HO_930001; clear HO_930002; clear BK915; clear BK916; clear BK917; clear BK929; clear BK933; clear BK937; clear HB; have HO_930000 := n0_; have HO_930001 := n1_; have HO_930002 := n2_; have BK915 := n3_; have BK916 := n4_; have BK917 := n5_; have BK929 := n6_; have BK933 := n7_; have BK937 := n8_; have HB := n9_; clear n0_ n1_ n2_ n3_ n4_ n5_ n6_ n7_ n8_ n9_; (try clear hb); (try clear hb2); (try clear hk); (try clear hi)))
              go_meet
              case rel => exact ⟨_, (true), (by first | rfl | (simp; done) | (simp [*]; done)), H', ⟨by have := HJ17.out; first | omega | exact Nat.le_refl _⟩, ⟨by (with_reducible repeat (first | apply Kd.R_alloc | apply Kd.R_drewN | apply Kd.R_drew)); exact HO_930000.out⟩, ⟨by (with_reducible repeat (first | apply Kd.R_alloc | apply Kd.R_drewN | apply Kd.R_drew)); exact HO_930001.out⟩, ⟨by (with_reducible repeat (first | apply Kd.S_alloc | apply Kd.S_drewN | apply Kd.S_drew)); exact HO_930002.out⟩, ⟨bk_ BK915.out⟩, ⟨bk_ BK916.out⟩, ⟨bk_ BK917.out⟩, ⟨bk_ BK929.out⟩, ⟨bk_ BK933.out⟩, ⟨bk_ BK937.out⟩, ⟨bl_ HB.out⟩⟩
          case rest =>
            clear HC100
            try clear c1
            try clear c2
            try clear p2
            try clear c3
            try clear c4
            try clear c5
            try clear c6
            try clear p6
            try clear c7
            try clear c8
            try clear c9
            try clear c10
            try clear c11
            try clear c12
            try clear c13
            try clear c20
            try clear c21
            try clear c22
            try clear c23
            try clear c24
            try clear c30
            try clear c31
            try clear c32
            try clear c34
            try clear c35
            try clear c36
            try clear c40
            try clear c41
            try clear c42
            try clear c43
            try clear c49
            try clear c50
            try clear c51
            try clear c52
            try clear c53
            try clear c55
            try clear c55b0
            try clear c56
            try clear c57
            try clear c58
            try clear c59
            try clear c60
            try clear c62
            try clear c63
            try clear c64
            try clear p64
            try clear c65
            try clear c67
            try clear c67b0
            try clear c67b1
            try clear c69
            try clear c70
            try clear c71
            try clear c72
            try clear c73
            try clear c75
            try clear c76
            try clear c77
            try clear c78
            try clear c80
            try clear c81
            try clear c82
            try clear c84
            try clear c85
            try clear c88
            try clear c89
            try clear c90
            try clear c91
            try clear c92
            try clear c94
            try clear c95
            try clear c96
            try clear c97
            try clear c99
            try clear c102
            try clear c102b0
            try clear c102b1
            try clear c104
            try clear c106
            try clear c107
            try clear c108
            try clear c109
            try clear c110
            try clear c113
            try clear c114
            try clear c115
            try clear c116
            try clear c119
            try clear c120
            try clear c121
            try clear c122
            try clear c123
            try clear c126
            try clear c127
            try clear c128
            try clear c129
            try clear c132
            try clear c133
            try clear c134
            try clear c135
            try clear c136
            try clear hcz111_0
            try clear hcz111_1
            try clear hcz111_2
            try clear hcz117_0
            try clear hcz117_1
            try clear hcz118_0
            try clear hcz118_1
            try clear hcz118_2
            try clear hcz124_0
            try clear hcz124_1
            try clear hcz124_2
            try clear hcz12_0
            try clear hcz12_1
            try clear hcz12_2
            try clear hcz130_0
            try clear hcz130_1
            try clear hcz131_0
            try clear hcz131_1
            try clear hcz131_2
            try clear hcz137_0
            try clear hcz137_1
            try clear hcz137_2
            try clear hcz24_0
            try clear hcz24_1
            try clear hcz24_2
            try clear hcz26_0
            try clear hcz26_1
            try clear hcz26_2
            try clear hcz33_0
            try clear hcz33_1
            try clear hcz33_2
            try clear hcz37_0
            try clear hcz37_1
            try clear hcz44_0
            try clear hcz44_1
            try clear hcz45_0
            try clear hcz45_1
            try clear hcz45_2
            try clear hcz46_0
            try clear hcz46_1
            try clear hcz54_0
            try clear hcz54_1
            try clear hcz61_0
            try clear hcz61_1
            try clear hcz66_0
            try clear hcz66_1
            try clear hcz74_0
            try clear hcz74_1
            try clear hcz79_0
            try clear hcz79_1
            try clear hcz83_0
            try clear hcz83_1
            try clear hcz83_2
            try clear hcz86_0
            try clear hcz86_1
            try clear hcz86_2
            try clear hcz93_0
            try clear hcz93_1
            try clear hcz98_0
            try clear hcz98_1
            try clear hfz111_0
            try clear hfz111_1
            try clear hfz111_2
            try clear hfz117_0
            try clear hfz117_1
            try clear hfz118_0
            try clear hfz118_1
            try clear hfz118_2
            try clear hfz124_0
            try clear hfz124_1
            try clear hfz124_2
            try clear hfz12_0
            try clear hfz12_1
            try clear hfz12_2
            try clear hfz130_0
            try clear hfz130_1
            try clear hfz131_0
            try clear hfz131_1
            try clear hfz131_2
            try clear hfz137_0
            try clear hfz137_1
            try clear hfz137_2
            try clear hfz24_0
            try clear hfz24_1
            try clear hfz24_2
            try clear hfz26_0
            try clear hfz26_1
            try clear hfz26_2
            try clear hfz33_0
            try clear hfz33_1
            try clear hfz33_2
            try clear hfz37_0
            try clear hfz37_1
            try clear hfz44_0
            try clear hfz44_1
            try clear hfz45_0
            try clear hfz45_1
            try clear hfz45_2
            try clear hfz46_0
            try clear hfz46_1
            try clear hfz54_0
            try clear hfz54_1
            try clear hfz61_0
            try clear hfz61_1
            try clear hfz66_0
            try clear hfz66_1
            try clear hfz74_0
            try clear hfz74_1
            try clear hfz79_0
            try clear hfz79_1
            try clear hfz83_0
            try clear hfz83_1
            try clear hfz83_2
            try clear hfz86_0
            try clear hfz86_1
            try clear hfz86_2
            try clear hfz93_0
            try clear hfz93_1
            try clear hfz98_0
            try clear hfz98_1
            try clear p2
            obtain ⟨kq, x74_99, rfl, HA, HJ99, HO_930000, HO_930001, HO_930002, BK915, BK916, BK917, BK929, BK933, BK937, HB⟩ := hcut
            cases kq with
            | zero => exact absurd HA.out (by simp [swashplatelaw01_SpansValues.j1])
            | succ kj99 =>
              have H := HA.out
              clear HA
              simp only [swashplatelaw01_SpansValues.j1] at H
              by_cases c139 : x74_99 = true
              · subst c139
                have H1 : ((swashplatelaw01_works.f kj99).bind fun t942 => (some t942)) = some r := by rw [if_pos rfl] at H; exact H
                clear H
                have H := H1
                clear H1
                replace H := Option.bind_eq_some_iff.mp H
                obtain ⟨t942, A1400, H⟩ := H
                replace H : (some t942) = some r := H
                have A140 := Aside0.mk A1400
                clear A1400
                obtain rfl := Option.some.inj H
                go_wp2_with (first | ((with_reducible refine gate_callee (f := 22) rfl ?_); refine goesL_ (some 75) rfl rfl Try.func22 (by kernel_rfl) rfl #[] rfl (by (try simp only [List.map_toArray, List.map_cons, List.map_nil]); first | done | rfl | (simp only [List.length_drop, List.length_take]; rfl)) ?_; (with_reducible refine (swashplatelaw01_works.calls kj99  t942 _ A140.out).mono ?_); rintro e w141 ⟨rfl, hb⟩; refine ⟨_, rfl, ?_⟩; have n0_ := Aside0.mk (Kd.R_below (by (with_reducible repeat (first | apply Kd.R_alloc | apply Kd.R_drewN | apply Kd.R_drew)); exact HO_930000.out) hb); have n1_ := Aside0.mk (Kd.R_below (by (with_reducible repeat (first | apply Kd.R_alloc | apply Kd.R_drewN | apply Kd.R_drew)); exact HO_930001.out) hb); have n2_ := Aside0.mk (Kd.S_below (by (with_reducible repeat (first | apply Kd.S_alloc | apply Kd.S_drewN | apply Kd.S_drew)); exact HO_930002.out) hb); have n3_ := Aside0.mk (blk_below (g := gb915) (o := .cells #[.slice A0_0 l0_0.length c0_0, .slice A0_1 l0_1.length c0_1, .slice A0_2 l0_2.length c0_2] 25 (0, 0)) (bk_ BK915.out) hb); have n4_ := Aside0.mk (blk_below (g := gb916) (o := .cells #[.int .i64 a1_0, .int .i64 a1_1] 50 (0, 0)) (bk_ BK916.out) hb); have n5_ := Aside0.mk (blk_below (g := gb917) (o := .cells #[.int .i64 a2_0, .int .i64 a2_1] 28 (0, 0)) (bk_ BK917.out) hb); have n6_ := Aside0.mk (blk_below (g := gb929) (o := .cells #[.slice Ao29 t920.length co29, .slice Ao34 t923.length co34, .slice Ao35 t926.length co35] 25 (0, 0)) (bk_ BK929.out) hb); have n7_ := Aside0.mk (blk_below (g := gb933) (o := .cells #[.int .i64 t930, .int .i64 t931] 27 (0, 0)) (bk_ BK933.out) hb); have n8_ := Aside0.mk (blk_below (g := gb937) (o := .cells #[.int .i64 t934, .int .i64 t935] 27 (0, 0)) (bk_ BK937.out) hb); have n9_ := Aside0.mk (below_step (bl_ HB.out) hb); clear HO_930000; clear HO_930001; clear HO_930002; clear BK915; clear BK916; clear BK917; clear BK929; clear BK933; clear BK937; clear HB; have HO_930000 := n0_; have HO_930001 := n1_; have HO_930002 := n2_; have BK915 := n3_; have BK916 := n4_; have BK917 := n5_; have BK929 := n6_; have BK933 := n7_; have BK937 := n8_; have HB := n9_; clear n0_ n1_ n2_ n3_ n4_ n5_ n6_ n7_ n8_ n9_; (try clear hb); (try clear hb2); (try clear hk); (try clear hi)))
                go_ret
                exact ⟨by first | rfl | (simp [errW_none, errW_some] <;> rfl) | (simp [*, errW_none, errW_some] <;> rfl), bl_ HB.out⟩
              · replace c139 := Bool.eq_false_iff.mpr c139
                subst c139
                have H1 : (if 0 ≤ a2_0 then (if a2_0 < (l0_2.length : Int) then (if 0 ≤ a2_1 then (if a2_1 < ((rd_L3 l0_2 a2_0).length : Int) then (if a2_0 < (l0_0.length : Int) then (if a2_1 < (l0_1.length : Int) then ((spans_At.f kj99 t920 t923 t926 (rd l0_0 a2_0) (rd l0_1 a2_1)).bind fun bt947 => (if bt947.2.2 = 0 then (if (bt947.1 == (rd (rd_L3 l0_2 a2_0) a2_1) && (bt947.2.1 == (rd (rd_L3 l0_2 a2_0) a2_1))) = true then ((swashplatelaw01_works.f kj99).bind fun t951 => (some t951)) else (some false)) else (some false))) else (none)) else (none)) else (none)) else (none)) else (none)) else (none)) = some r := by rw [if_neg (show ¬ (false = true) by decide)] at H; exact H
                clear H
                have H := H1
                clear H1
                by_cases c142 : 0 ≤ a2_0
                · rw [if_pos c142] at H
                  have c142b0 : decide (0 ≤ a2_0) = true := decide_eq_true c142
                  clear c142
                  by_cases c143 : a2_0 < (l0_2.length : Int)
                  · rw [if_pos c143] at H
                    have c143b0 : decide (a2_0 < (l0_2.length : Int)) = true := decide_eq_true c143
                    clear c143
                    by_cases c144 : 0 ≤ a2_1
                    · rw [if_pos c144] at H
                      have c144b0 : decide (0 ≤ a2_1) = true := decide_eq_true c144
                      clear c144
                      by_cases c145 : a2_1 < ((rd_L3 l0_2 a2_0).length : Int)
                      · rw [if_pos c145] at H
                        have c145b0 : decide (a2_1 < ((rd_L3 l0_2 a2_0).length : Int)) = true := decide_eq_true c145
                        clear c145
                        by_cases c146 : a2_0 < (l0_0.length : Int)
                        · rw [if_pos c146] at H
                          have c146b0 : decide (a2_0 < (l0_0.length : Int)) = true := decide_eq_true c146
                          clear c146
                          by_cases c147 : a2_1 < (l0_1.length : Int)
                          · rw [if_pos c147] at H
                            have c147b0 : decide (a2_1 < (l0_1.length : Int)) = true := decide_eq_true c147
                            clear c147
                            replace H := Option.bind_eq_some_iff.mp H
                            obtain ⟨⟨t947, t948, t949⟩, A1480, H⟩ := H
                            replace H : (if t949 = 0 then (if (t947 == (rd (rd_L3 l0_2 a2_0) a2_1) && (t948 == (rd (rd_L3 l0_2 a2_0) a2_1))) = true then ((swashplatelaw01_works.f kj99).bind fun t951 => (some t951)) else (some false)) else (some false)) = some r := H
                            have A148 := Aside0.mk A1480
                            clear A1480
                            by_cases c149 : t949 = 0
                            · rw [if_pos c149] at H
                              have c149b0 : (t949 == 0) = true := beq_iff_eq.mpr c149
                              have c149b1 : (t949 != 0) = false := bne_eq_false_iff_eq.mpr c149
                              clear c149
                              by_cases c150 : (t947 == (rd (rd_L3 l0_2 a2_0) a2_1) && (t948 == (rd (rd_L3 l0_2 a2_0) a2_1))) = true
                              · rw [if_pos c150] at H
                                have c150b0 : (t947 == (rd (rd_L3 l0_2 a2_0) a2_1) && (t948 == (rd (rd_L3 l0_2 a2_0) a2_1))) = true := c150
                                (try (have c150b1 : decide (t947 = (rd (rd_L3 l0_2 a2_0) a2_1) && (t948 == (rd (rd_L3 l0_2 a2_0) a2_1))) = true := by simpa using c150))
                                (try (have c150b2 : (t947 == (rd (rd_L3 l0_2 a2_0) a2_1) && (t948 == (rd (rd_L3 l0_2 a2_0) a2_1))) = true := by simpa using c150))
                                clear c150
                                replace H := Option.bind_eq_some_iff.mp H
                                obtain ⟨t951, A1510, H⟩ := H
                                replace H : (some t951) = some r := H
                                have A151 := Aside0.mk A1510
                                clear A1510
                                obtain rfl := Option.some.inj H
                                try go_wp2
                                have n0_ := Aside0.mk (Kd.R_drew HO_930000.out)
                                have n1_ := Aside0.mk (Kd.R_drew HO_930001.out)
                                have n2_ := Aside0.mk (Kd.S_drew HO_930002.out)
                                have n3_ := Aside0.mk (blk_drew BK915.out)
                                have n4_ := Aside0.mk (blk_drew BK916.out)
                                have n5_ := Aside0.mk (blk_drew BK917.out)
                                have n6_ := Aside0.mk (blk_drew BK929.out)
                                have n7_ := Aside0.mk (blk_drew BK933.out)
                                have n8_ := Aside0.mk (blk_drew BK937.out)
                                have n9_ := Aside0.mk (below_drew1 HB.out)
                                clear HO_930000
                                clear HO_930001
                                clear HO_930002
                                clear BK915
                                clear BK916
                                clear BK917
                                clear BK929
                                clear BK933
                                clear BK937
                                clear HB
                                have HO_930000 := n0_
                                have HO_930001 := n1_
                                have HO_930002 := n2_
                                have BK915 := n3_
                                have BK916 := n4_
                                have BK917 := n5_
                                have BK929 := n6_
                                have BK933 := n7_
                                have BK937 := n8_
                                have HB := n9_
                                clear n0_ n1_ n2_ n3_ n4_ n5_ n6_ n7_ n8_ n9_
                                have p943 : 0 ≤ (a2_0 : Int) := of_decide_eq_true (by first | (with_reducible assumption) | assumption)
                                have q943 : a2_0 < (l0_2.length : Int) := of_decide_eq_true (by first | (with_reducible assumption) | assumption)
                                obtain ⟨ad943, A943_0, c943_0, e943, hx943_0, hl943_0, hi943_0⟩ := at_L3 HR0_2.out a2_0 p943 q943
                                have hw943_0 := hx943_0
                                cases e943
                                replace hx943_0 := (HB.out.cell (World.block_lt_of_cell? w _ hx943_0)).trans hx943_0
                                have HR943_0 := Aside0.mk hi943_0
                                have HC943_0 := Aside0.mk hl943_0
                                clear hi943_0 hl943_0
                                replace p943 := eq_true p943
                                replace q943 := eq_true q943
                                have p944 : 0 ≤ (a2_1 : Int) := of_decide_eq_true (by first | (with_reducible assumption) | assumption)
                                have q944 : a2_1 < ((rd_L3 l0_2 a2_0).length : Int) := of_decide_eq_true (by first | (with_reducible assumption) | assumption)
                                obtain ⟨ad944, e944, hx944_0⟩ := Kd.at_int HR943_0.out a2_1 p944 q944
                                have hw944_0 := hx944_0
                                cases e944
                                replace hx944_0 := (HB.out.cell (World.block_lt_of_cell? w _ hx944_0)).trans hx944_0
                                replace p944 := eq_true p944
                                replace q944 := eq_true q944
                                refine start_ (n := 11) (S := fun w' => w'.cell? ⟨gb915, 0, none⟩ = some (.slice A0_0 l0_0.length c0_0) ∧ w'.cell? ⟨gb915, 1, none⟩ = some (.slice A0_1 l0_1.length c0_1) ∧ w'.cell? ⟨gb915, 2, none⟩ = some (.slice (some ad943) l0_2.length c0_2) ∧ w'.cell? ⟨gb917, 0, none⟩ = some (.int .i64 a2_0) ∧ w'.cell? ⟨gb917, 1, none⟩ = some (.int .i64 a2_1) ∧ w'.cell? (ad943.add (a2_0).toNat) = some (.slice (some ad944) (rd_L3 l0_2 a2_0).length c943_0) ∧ w'.cell? (ad944.add (a2_1).toNat) = some (.int .i64 (rd (rd_L3 l0_2 a2_0) a2_1))) (ds := []) #[false, false, false, false, false, false, false, false, false, false, false] (by kernel_rfl) rfl rfl ⟨(blk_cell BK915.out 0).trans rfl, (blk_cell BK915.out 1).trans rfl, (blk_cell BK915.out 2).trans rfl, (blk_cell BK917.out 0).trans rfl, (blk_cell BK917.out 1).trans rfl, ((HB.out.cell (World.block_lt_of_cell? w _ hw943_0)).trans hw943_0), ((HB.out.cell (World.block_lt_of_cell? w _ hw944_0)).trans hw944_0)⟩ (fun hHeld => ?_); refine with_tabW swashplatelaw01_SpansValues.tab10 swashplatelaw01_SpansValues.bits10 (fun HT_ HW_ => ?_)
                                generalize wc.drew = w152 at HO_930000 HO_930001 HO_930002 BK915 BK916 BK917 BK929 BK933 BK937 HB HR943_0 hx943_0 hx944_0 hHeld ⊢
                                refine pure_ (i := 0) (N := some 76) (v := ?_) (a' := ?_) #[true, false, false, false, false, false, false, false, false, false, false] rfl rfl (any_of HT_.out (by kernel_rfl)) (fun _ _ _ h => h) (Or.inl ⟨by rfl, ?_⟩) ?_ ?_
                                rotate_left
                                · intro w'
                                  go_simp
                                  with_reducible rfl
                                rotate_left
                                · simp only [Act.put, List.setIfInBounds_toArray, List.set_cons_zero, List.set_cons_succ, i64_w, i32_w]
                                  rfl
                                refine pure_ (i := 2) (N := some 78) (v := ?_) (a' := ?_) #[true, false, true, false, false, false, false, false, false, false, false] rfl rfl (any_of HT_.out (by kernel_rfl)) (fun _ _ _ h => h) (Or.inl ⟨by rfl, ?_⟩) ?_ ?_
                                rotate_left
                                · intro w'
                                  go_simp
                                  with_reducible rfl
                                rotate_left
                                · simp only [Act.put, List.setIfInBounds_toArray, List.set_cons_zero, List.set_cons_succ, i64_w, i32_w]
                                  rfl
                                refine pure_ (i := 6) (N := some 82) (v := ?_) (a' := ?_) #[true, false, true, false, false, false, true, false, false, false, false] rfl rfl (any_of HT_.out (by kernel_rfl)) (fun _ _ _ h => h) (Or.inl ⟨by rfl, ?_⟩) ?_ ?_
                                rotate_left
                                · intro w'
                                  go_simp
                                  with_reducible rfl
                                rotate_left
                                · simp only [Act.put, List.setIfInBounds_toArray, List.set_cons_zero, List.set_cons_succ, i64_w, i32_w]
                                  rfl
                                refine take_ (i := 1) (N := some 77) (v := ?_) (a' := ?_) #[true, true, true, false, false, false, true, false, false, false, false] rfl rfl (take_ofW HT_.out HW_.out (by kernel_rfl)) (fun _ _ _ h => h) (Or.inl ⟨by rfl, ?_⟩) hHeld ?_ ?_
                                rotate_left
                                · rintro w' ⟨s0, s1, s2, s3, s4, s5, s6⟩
                                  go_simp
                                  with_reducible rfl
                                rotate_left
                                · simp only [Act.put, List.setIfInBounds_toArray, List.set_cons_zero, List.set_cons_succ, i64_w, i32_w]
                                  rfl
                                refine take_ (i := 3) (N := some 79) (v := ?_) (a' := ?_) #[true, true, true, true, false, false, true, false, false, false, false] rfl rfl (take_ofW HT_.out HW_.out (by kernel_rfl)) (fun _ _ _ h => h) (Or.inl ⟨by rfl, ?_⟩) hHeld ?_ ?_
                                rotate_left
                                · rintro w' ⟨s0, s1, s2, s3, s4, s5, s6⟩
                                  go_simp
                                  with_reducible rfl
                                rotate_left
                                · simp only [Act.put, List.setIfInBounds_toArray, List.set_cons_zero, List.set_cons_succ, i64_w, i32_w]
                                  rfl
                                refine pure_ (i := 4) (N := some 80) (v := ?_) (a' := ?_) #[true, true, true, true, true, false, true, false, false, false, false] rfl rfl (any_of HT_.out (by kernel_rfl)) (fun _ _ _ h => h) (Or.inl ⟨by rfl, ?_⟩) ?_ ?_
                                rotate_left
                                · intro w'
                                  go_simp
                                  with_reducible rfl
                                rotate_left
                                · simp only [Act.put, List.setIfInBounds_toArray, List.set_cons_zero, List.set_cons_succ, i64_w, i32_w]
                                  rfl
                                refine take_ (i := 5) (N := some 81) (v := ?_) (a' := ?_) #[true, true, true, true, true, true, true, false, false, false, false] rfl rfl (take_ofW HT_.out HW_.out (by kernel_rfl)) (fun _ _ _ h => h) (Or.inl ⟨by rfl, ?_⟩) hHeld ?_ ?_
                                rotate_left
                                · rintro w' ⟨s0, s1, s2, s3, s4, s5, s6⟩
                                  go_simp
                                  with_reducible rfl
                                rotate_left
                                · simp only [Act.put, List.setIfInBounds_toArray, List.set_cons_zero, List.set_cons_succ, i64_w, i32_w]
                                  rfl
                                refine take_ (i := 7) (N := some 83) (v := ?_) (a' := ?_) #[true, true, true, true, true, true, true, true, false, false, false] rfl rfl (take_ofW HT_.out HW_.out (by kernel_rfl)) (fun _ _ _ h => h) (Or.inl ⟨by rfl, ?_⟩) hHeld ?_ ?_
                                rotate_left
                                · rintro w' ⟨s0, s1, s2, s3, s4, s5, s6⟩
                                  go_simp
                                  with_reducible rfl
                                rotate_left
                                · simp only [Act.put, List.setIfInBounds_toArray, List.set_cons_zero, List.set_cons_succ, i64_w, i32_w]
                                  rfl
                                refine pure_ (i := 8) (N := some 84) (v := ?_) (a' := ?_) #[true, true, true, true, true, true, true, true, true, false, false] rfl rfl (any_of HT_.out (by kernel_rfl)) (fun _ _ _ h => h) (Or.inl ⟨by rfl, ?_⟩) ?_ ?_
                                rotate_left
                                · intro w'
                                  go_simp
                                  with_reducible rfl
                                rotate_left
                                · simp only [Act.put, List.setIfInBounds_toArray, List.set_cons_zero, List.set_cons_succ, i64_w, i32_w]
                                  rfl
                                refine take_ (i := 9) (N := some 85) (v := ?_) (a' := ?_) #[true, true, true, true, true, true, true, true, true, true, false] rfl rfl (take_ofW HT_.out HW_.out (by kernel_rfl)) (fun _ _ _ h => h) (Or.inl ⟨by rfl, ?_⟩) hHeld ?_ ?_
                                rotate_left
                                · rintro w' ⟨s0, s1, s2, s3, s4, s5, s6⟩
                                  go_simp
                                  with_reducible rfl
                                rotate_left
                                · simp only [Act.put, List.setIfInBounds_toArray, List.set_cons_zero, List.set_cons_succ, i64_w, i32_w]
                                  rfl
                                refine pure_ (i := 10) (N := some 12) (v := ?_) (a' := ?_) #[true, true, true, true, true, true, true, true, true, true, true] rfl rfl (any_of HT_.out (by kernel_rfl)) (fun _ _ _ h => h) (Or.inl ⟨by rfl, ?_⟩) ?_ ?_
                                rotate_left
                                · intro w'
                                  go_simp
                                  with_reducible rfl
                                rotate_left
                                · simp only [Act.put, List.setIfInBounds_toArray, List.set_cons_zero, List.set_cons_succ, i64_w, i32_w]
                                  rfl
                                refine done_ (done_of HT_.out (by kernel_rfl)) ?_
                                try go_wp2
                                have n0_ := Aside0.mk (Kd.R_drew HO_930000.out)
                                have n1_ := Aside0.mk (Kd.R_drew HO_930001.out)
                                have n2_ := Aside0.mk (Kd.S_drew HO_930002.out)
                                have n3_ := Aside0.mk (blk_drew BK915.out)
                                have n4_ := Aside0.mk (blk_drew BK916.out)
                                have n5_ := Aside0.mk (blk_drew BK917.out)
                                have n6_ := Aside0.mk (blk_drew BK929.out)
                                have n7_ := Aside0.mk (blk_drew BK933.out)
                                have n8_ := Aside0.mk (blk_drew BK937.out)
                                have n9_ := Aside0.mk (below_drew1 HB.out)
                                clear HO_930000
                                clear HO_930001
                                clear HO_930002
                                clear BK915
                                clear BK916
                                clear BK917
                                clear BK929
                                clear BK933
                                clear BK937
                                clear HB
                                have HO_930000 := n0_
                                have HO_930001 := n1_
                                have HO_930002 := n2_
                                have BK915 := n3_
                                have BK916 := n4_
                                have BK917 := n5_
                                have BK929 := n6_
                                have BK933 := n7_
                                have BK937 := n8_
                                have HB := n9_
                                clear n0_ n1_ n2_ n3_ n4_ n5_ n6_ n7_ n8_ n9_
                                have p945 : 0 ≤ (a2_0 : Int) := of_decide_eq_true (by first | (with_reducible assumption) | assumption)
                                have q945 : a2_0 < (l0_0.length : Int) := of_decide_eq_true (by first | (with_reducible assumption) | assumption)
                                obtain ⟨ad945, e945, hx945_0⟩ := Kd.at_int HR0_0.out a2_0 p945 q945
                                have hw945_0 := hx945_0
                                cases e945
                                replace hx945_0 := (HB.out.cell (World.block_lt_of_cell? w _ hx945_0)).trans hx945_0
                                replace p945 := eq_true p945
                                replace q945 := eq_true q945
                                have p946 : 0 ≤ (a2_1 : Int) := of_decide_eq_true (by first | (with_reducible assumption) | assumption)
                                have q946 : a2_1 < (l0_1.length : Int) := of_decide_eq_true (by first | (with_reducible assumption) | assumption)
                                obtain ⟨ad946, e946, hx946_0⟩ := Kd.at_int HR0_1.out a2_1 p946 q946
                                have hw946_0 := hx946_0
                                cases e946
                                replace hx946_0 := (HB.out.cell (World.block_lt_of_cell? w _ hx946_0)).trans hx946_0
                                replace p946 := eq_true p946
                                replace q946 := eq_true q946
                                refine start_ (n := 20) (S := fun w' => w'.cell? ⟨gb929, 0, none⟩ = some (.slice Ao29 t920.length co29) ∧ w'.cell? ⟨gb929, 1, none⟩ = some (.slice Ao34 t923.length co34) ∧ w'.cell? ⟨gb929, 2, none⟩ = some (.slice Ao35 t926.length co35) ∧ w'.cell? ⟨gb915, 0, none⟩ = some (.slice (some ad945) l0_0.length c0_0) ∧ w'.cell? ⟨gb915, 1, none⟩ = some (.slice (some ad946) l0_1.length c0_1) ∧ w'.cell? ⟨gb915, 2, none⟩ = some (.slice (some ad943) l0_2.length c0_2) ∧ w'.cell? ⟨gb917, 0, none⟩ = some (.int .i64 a2_0) ∧ w'.cell? ⟨gb917, 1, none⟩ = some (.int .i64 a2_1) ∧ w'.cell? (ad945.add (a2_0).toNat) = some (.int .i64 (rd l0_0 a2_0)) ∧ w'.cell? (ad946.add (a2_1).toNat) = some (.int .i64 (rd l0_1 a2_1))) (ds := []) #[false, false, false, false, false, false, false, false, false, false, false, false, false, false, false, false, false, false, false, false] (by kernel_rfl) rfl rfl ⟨(blk_cell BK929.out 0).trans rfl, (blk_cell BK929.out 1).trans rfl, (blk_cell BK929.out 2).trans rfl, (blk_cell BK915.out 0).trans rfl, (blk_cell BK915.out 1).trans rfl, (blk_cell BK915.out 2).trans rfl, (blk_cell BK917.out 0).trans rfl, (blk_cell BK917.out 1).trans rfl, ((HB.out.cell (World.block_lt_of_cell? w _ hw945_0)).trans hw945_0), ((HB.out.cell (World.block_lt_of_cell? w _ hw946_0)).trans hw946_0)⟩ (fun hHeld => ?_); refine with_tabW swashplatelaw01_SpansValues.tab11 swashplatelaw01_SpansValues.bits11 (fun HT_ HW_ => ?_)
                                generalize w152.drew = w153 at HO_930000 HO_930001 HO_930002 BK915 BK916 BK917 BK929 BK933 BK937 HB hx945_0 hx946_0 hHeld ⊢
                                refine pure_ (i := 1) (N := some 88) (v := ?_) (a' := ?_) #[false, true, false, false, false, false, false, false, false, false, false, false, false, false, false, false, false, false, false, false] rfl rfl (any_of HT_.out (by kernel_rfl)) (fun _ _ _ h => h) (Or.inl ⟨by rfl, ?_⟩) ?_ ?_
                                rotate_left
                                · intro w'
                                  go_simp
                                  with_reducible rfl
                                rotate_left
                                · simp only [Act.put, List.setIfInBounds_toArray, List.set_cons_zero, List.set_cons_succ, i64_w, i32_w]
                                  rfl
                                refine pure_ (i := 3) (N := some 90) (v := ?_) (a' := ?_) #[false, true, false, true, false, false, false, false, false, false, false, false, false, false, false, false, false, false, false, false] rfl rfl (any_of HT_.out (by kernel_rfl)) (fun _ _ _ h => h) (Or.inl ⟨by rfl, ?_⟩) ?_ ?_
                                rotate_left
                                · intro w'
                                  go_simp
                                  with_reducible rfl
                                rotate_left
                                · simp only [Act.put, List.setIfInBounds_toArray, List.set_cons_zero, List.set_cons_succ, i64_w, i32_w]
                                  rfl
                                refine pure_ (i := 7) (N := some 94) (v := ?_) (a' := ?_) #[false, true, false, true, false, false, false, true, false, false, false, false, false, false, false, false, false, false, false, false] rfl rfl (any_of HT_.out (by kernel_rfl)) (fun _ _ _ h => h) (Or.inl ⟨by rfl, ?_⟩) ?_ ?_
                                rotate_left
                                · intro w'
                                  go_simp
                                  with_reducible rfl
                                rotate_left
                                · simp only [Act.put, List.setIfInBounds_toArray, List.set_cons_zero, List.set_cons_succ, i64_w, i32_w]
                                  rfl
                                refine pure_ (i := 9) (N := some 96) (v := ?_) (a' := ?_) #[false, true, false, true, false, false, false, true, false, true, false, false, false, false, false, false, false, false, false, false] rfl rfl (any_of HT_.out (by kernel_rfl)) (fun _ _ _ h => h) (Or.inl ⟨by rfl, ?_⟩) ?_ ?_
                                rotate_left
                                · intro w'
                                  go_simp
                                  with_reducible rfl
                                rotate_left
                                · simp only [Act.put, List.setIfInBounds_toArray, List.set_cons_zero, List.set_cons_succ, i64_w, i32_w]
                                  rfl
                                refine take_ (i := 0) (N := some 87) (v := ?_) (a' := ?_) #[true, true, false, true, false, false, false, true, false, true, false, false, false, false, false, false, false, false, false, false] rfl rfl (take_ofW HT_.out HW_.out (by kernel_rfl)) (fun _ _ _ h => h) (Or.inl ⟨by rfl, ?_⟩) hHeld ?_ ?_
                                rotate_left
                                · rintro w' ⟨s0, s1, s2, s3, s4, s5, s6, s7, s8, s9⟩
                                  go_simp
                                  with_reducible rfl
                                rotate_left
                                · simp only [Act.put, List.setIfInBounds_toArray, List.set_cons_zero, List.set_cons_succ, i64_w, i32_w]
                                  rfl
                                refine take_ (i := 2) (N := some 89) (v := ?_) (a' := ?_) #[true, true, true, true, false, false, false, true, false, true, false, false, false, false, false, false, false, false, false, false] rfl rfl (take_ofW HT_.out HW_.out (by kernel_rfl)) (fun _ _ _ h => h) (Or.inl ⟨by rfl, ?_⟩) hHeld ?_ ?_
                                rotate_left
                                · rintro w' ⟨s0, s1, s2, s3, s4, s5, s6, s7, s8, s9⟩
                                  go_simp
                                  with_reducible rfl
                                rotate_left
                                · simp only [Act.put, List.setIfInBounds_toArray, List.set_cons_zero, List.set_cons_succ, i64_w, i32_w]
                                  rfl
                                refine take_ (i := 4) (N := some 91) (v := ?_) (a' := ?_) #[true, true, true, true, true, false, false, true, false, true, false, false, false, false, false, false, false, false, false, false] rfl rfl (take_ofW HT_.out HW_.out (by kernel_rfl)) (fun _ _ _ h => h) (Or.inl ⟨by rfl, ?_⟩) hHeld ?_ ?_
                                rotate_left
                                · rintro w' ⟨s0, s1, s2, s3, s4, s5, s6, s7, s8, s9⟩
                                  go_simp
                                  with_reducible rfl
                                rotate_left
                                · simp only [Act.put, List.setIfInBounds_toArray, List.set_cons_zero, List.set_cons_succ, i64_w, i32_w]
                                  rfl
                                refine pure_ (i := 5) (N := some 92) (v := ?_) (a' := ?_) #[true, true, true, true, true, true, false, true, false, true, false, false, false, false, false, false, false, false, false, false] rfl rfl (any_of HT_.out (by kernel_rfl)) (fun _ _ _ h => h) (Or.inl ⟨by rfl, ?_⟩) ?_ ?_
                                rotate_left
                                · intro w'
                                  go_simp
                                  with_reducible rfl
                                rotate_left
                                · simp only [Act.put, List.setIfInBounds_toArray, List.set_cons_zero, List.set_cons_succ, i64_w, i32_w]
                                  rfl
                                refine take_ (i := 6) (N := some 93) (v := ?_) (a' := ?_) #[true, true, true, true, true, true, true, true, false, true, false, false, false, false, false, false, false, false, false, false] rfl rfl (take_ofW HT_.out HW_.out (by kernel_rfl)) (fun _ _ _ h => h) (Or.inl ⟨by rfl, ?_⟩) hHeld ?_ ?_
                                rotate_left
                                · rintro w' ⟨s0, s1, s2, s3, s4, s5, s6, s7, s8, s9⟩
                                  go_simp
                                  with_reducible rfl
                                rotate_left
                                · simp only [Act.put, List.setIfInBounds_toArray, List.set_cons_zero, List.set_cons_succ, i64_w, i32_w]
                                  rfl
                                refine take_ (i := 8) (N := some 95) (v := ?_) (a' := ?_) #[true, true, true, true, true, true, true, true, true, true, false, false, false, false, false, false, false, false, false, false] rfl rfl (take_ofW HT_.out HW_.out (by kernel_rfl)) (fun _ _ _ h => h) (Or.inl ⟨by rfl, ?_⟩) hHeld ?_ ?_
                                rotate_left
                                · rintro w' ⟨s0, s1, s2, s3, s4, s5, s6, s7, s8, s9⟩
                                  go_simp
                                  with_reducible rfl
                                rotate_left
                                · simp only [Act.put, List.setIfInBounds_toArray, List.set_cons_zero, List.set_cons_succ, i64_w, i32_w]
                                  rfl
                                refine take_ (i := 10) (N := some 97) (v := ?_) (a' := ?_) #[true, true, true, true, true, true, true, true, true, true, true, false, false, false, false, false, false, false, false, false] rfl rfl (take_ofW HT_.out HW_.out (by kernel_rfl)) (fun _ _ _ h => h) (Or.inl ⟨by rfl, ?_⟩) hHeld ?_ ?_
                                rotate_left
                                · rintro w' ⟨s0, s1, s2, s3, s4, s5, s6, s7, s8, s9⟩
                                  go_simp
                                  with_reducible rfl
                                rotate_left
                                · simp only [Act.put, List.setIfInBounds_toArray, List.set_cons_zero, List.set_cons_succ, i64_w, i32_w]
                                  rfl
                                refine pure_ (i := 11) (N := some 98) (v := ?_) (a' := ?_) #[true, true, true, true, true, true, true, true, true, true, true, true, false, false, false, false, false, false, false, false] rfl rfl (any_of HT_.out (by kernel_rfl)) (fun _ _ _ h => h) (Or.inl ⟨by rfl, ?_⟩) ?_ ?_
                                rotate_left
                                · intro w'
                                  go_simp
                                  with_reducible rfl
                                rotate_left
                                · simp only [Act.put, List.setIfInBounds_toArray, List.set_cons_zero, List.set_cons_succ, i64_w, i32_w]
                                  rfl
                                refine take_ (i := 12) (N := some 99) (v := ?_) (a' := ?_) #[true, true, true, true, true, true, true, true, true, true, true, true, true, false, false, false, false, false, false, false] rfl rfl (take_ofW HT_.out HW_.out (by kernel_rfl)) (fun _ _ _ h => h) (Or.inl ⟨by rfl, ?_⟩) hHeld ?_ ?_
                                rotate_left
                                · rintro w' ⟨s0, s1, s2, s3, s4, s5, s6, s7, s8, s9⟩
                                  go_simp
                                  with_reducible rfl
                                rotate_left
                                · simp only [Act.put, List.setIfInBounds_toArray, List.set_cons_zero, List.set_cons_succ, i64_w, i32_w]
                                  rfl
                                refine join_ (σ := Nat) 2 #[true, true, true, true, true, true, true, true, true, true, true, true, true, true, true, true, true, true, false, false] (fun s_ => [(100, .tuple #[.agg #[.int .i64 t947, .int .i64 t948], .int .i64 t949]), (13, .pointer (some ⟨s_, 0, none⟩)), (86, .tuple #[.agg #[.int .i64 t947, .int .i64 t948], .int .i64 t949]), (101, .agg #[.int .i64 t947, .int .i64 t948]), (102, .int .i64 t949)]) (fun s_ w' => (w'.cell? ⟨gb929, 0, none⟩ = some (.slice Ao29 t920.length co29) ∧ w'.cell? ⟨gb929, 1, none⟩ = some (.slice Ao34 t923.length co34) ∧ w'.cell? ⟨gb929, 2, none⟩ = some (.slice Ao35 t926.length co35) ∧ w'.cell? ⟨gb915, 0, none⟩ = some (.slice (some ad945) l0_0.length c0_0) ∧ w'.cell? ⟨gb915, 1, none⟩ = some (.slice (some ad946) l0_1.length c0_1) ∧ w'.cell? ⟨gb915, 2, none⟩ = some (.slice (some ad943) l0_2.length c0_2) ∧ w'.cell? ⟨gb917, 0, none⟩ = some (.int .i64 a2_0) ∧ w'.cell? ⟨gb917, 1, none⟩ = some (.int .i64 a2_1) ∧ w'.cell? (ad945.add (a2_0).toNat) = some (.int .i64 (rd l0_0 a2_0)) ∧ w'.cell? (ad946.add (a2_1).toNat) = some (.int .i64 (rd l0_1 a2_1))) ∧ (Kd.R (Kd.int .i64) 3 w' w.heap.size (fun k_ => some k_ ≠ (.slice Ao34 t923.length co34 : Value).ownBlock) (.slice Ao29 t920.length co29) t920) ∧ (Kd.R (Kd.int .i64) 3 w' w.heap.size (fun k_ => some k_ ≠ (.slice Ao29 t920.length co29 : Value).ownBlock) (.slice Ao34 t923.length co34) t923) ∧ (Kd.S (Kd.slice 3 (Kd.int .i64)) 22 w' w.heap.size (fun k_ => some k_ ≠ (.slice Ao29 t920.length co29 : Value).ownBlock ∧ some k_ ≠ (.slice Ao34 t923.length co34 : Value).ownBlock) (.slice Ao35 t926.length co35) t926) ∧ (w'.heap[gb915]? = some (.cells #[.slice (some ad945) l0_0.length c0_0, .slice (some ad946) l0_1.length c0_1, .slice (some ad943) l0_2.length c0_2] 25 (0, 0))) ∧ (w'.heap[gb916]? = some (.cells #[.int .i64 a1_0, .int .i64 a1_1] 50 (0, 0))) ∧ (w'.heap[gb917]? = some (.cells #[.int .i64 a2_0, .int .i64 a2_1] 28 (0, 0))) ∧ (w'.heap[gb929]? = some (.cells #[.slice Ao29 t920.length co29, .slice Ao34 t923.length co34, .slice Ao35 t926.length co35] 25 (0, 0))) ∧ (w'.heap[gb933]? = some (.cells #[.int .i64 t930, .int .i64 t931] 27 (0, 0))) ∧ (w'.heap[gb937]? = some (.cells #[.int .i64 t934, .int .i64 t935] 27 (0, 0))) ∧ (w'.heap[s_]? = some (.cells #[.int .i64 0, .int .i64 0] 27 (0, 0))) ∧ (w.heap.size ≤ s_) ∧ (w.heap.size ≤ s_) ∧ (gb915 ≠ s_) ∧ (s_ ≠ gb915) ∧ (gb916 ≠ s_) ∧ (s_ ≠ gb916) ∧ (gb917 ≠ s_) ∧ (s_ ≠ gb917) ∧ (gb929 ≠ s_) ∧ (s_ ≠ gb929) ∧ (gb933 ≠ s_) ∧ (s_ ≠ gb933) ∧ (gb937 ≠ s_) ∧ (s_ ≠ gb937) ∧ (Below w.heap.size w w')) ?_ ?_
                                rotate_left
                                · intro hCont
                                  refine two_ (i := 13) (j := 17) (Ni := some 100) (Nj := some 13) #[true, true, true, true, true, true, true, true, true, true, true, true, true, true, false, false, false, false, false, false] #[true, true, true, true, true, true, true, true, true, true, true, true, true, false, false, false, false, true, false, false] rfl rfl rfl rfl (two_of HT_.out (by kernel_rfl)) (by decide) (by decide) (fun K hK => ?_) (fun K hK => ?_)
                                  · skip
                                    refine goes_ Try.func34 (by kernel_rfl) rfl #[.agg #[.slice Ao29 t920.length co29, .slice Ao34 t923.length co34, .slice Ao35 t926.length co35], .int .i64 (rd l0_0 a2_0), .int .i64 (rd l0_1 a2_1)] (by rfl) rfl rfl (by (try simp only [List.map_toArray, List.map_cons, List.map_nil]); first | done | rfl | (simp only [List.length_drop, List.length_take]; rfl)) ?_
                                    with_reducible refine (spans_At.calls kj99 _ _ t920 _ _ t923 _ _ t926 (rd l0_0 a2_0) (rd l0_1 a2_1) t947 t948 t949 _ ?side1 ?side2 ?side3 ?side4 ?side5 ?side6 A148.out).mono ?_
                                    (case side1 => exact cr_ (Kd.R_reads' HO_930000.out).2.2)
                                    (case side2 => exact (Kd.R_reads' HO_930000.out).2.1)
                                    (case side3 => exact cr_ (Kd.R_reads' HO_930001.out).2.2)
                                    (case side4 => exact (Kd.R_reads' HO_930001.out).2.1)
                                    (case side5 => exact cr_ (Kd.S_reads' HO_930002.out).2.2)
                                    (case side6 => exact (Kd.S_reads' HO_930002.out).2.1)
                                    rintro e w154 ⟨rfl, hb⟩
                                    refine ⟨_, rfl, ?_⟩
                                    have n0_ := Aside0.mk (Kd.R_below (by (with_reducible repeat (first | apply Kd.R_alloc | apply Kd.R_drewN | apply Kd.R_drew)); exact HO_930000.out) hb)
                                    have n1_ := Aside0.mk (Kd.R_below (by (with_reducible repeat (first | apply Kd.R_alloc | apply Kd.R_drewN | apply Kd.R_drew)); exact HO_930001.out) hb)
                                    have n2_ := Aside0.mk (Kd.S_below (by (with_reducible repeat (first | apply Kd.S_alloc | apply Kd.S_drewN | apply Kd.S_drew)); exact HO_930002.out) hb)
                                    have n3_ := Aside0.mk (blk_below (g := gb915) (o := .cells #[.slice (some ad945) l0_0.length c0_0, .slice (some ad946) l0_1.length c0_1, .slice (some ad943) l0_2.length c0_2] 25 (0, 0)) (bk_ BK915.out) hb)
                                    have n4_ := Aside0.mk (blk_below (g := gb916) (o := .cells #[.int .i64 a1_0, .int .i64 a1_1] 50 (0, 0)) (bk_ BK916.out) hb)
                                    have n5_ := Aside0.mk (blk_below (g := gb917) (o := .cells #[.int .i64 a2_0, .int .i64 a2_1] 28 (0, 0)) (bk_ BK917.out) hb)
                                    have n6_ := Aside0.mk (blk_below (g := gb929) (o := .cells #[.slice Ao29 t920.length co29, .slice Ao34 t923.length co34, .slice Ao35 t926.length co35] 25 (0, 0)) (bk_ BK929.out) hb)
                                    have n7_ := Aside0.mk (blk_below (g := gb933) (o := .cells #[.int .i64 t930, .int .i64 t931] 27 (0, 0)) (bk_ BK933.out) hb)
                                    have n8_ := Aside0.mk (blk_below (g := gb937) (o := .cells #[.int .i64 t934, .int .i64 t935] 27 (0, 0)) (bk_ BK937.out) hb)
                                    have n9_ := Aside0.mk (below_step (bl_ HB.out) hb)
                                    clear HO_930000
                                    clear HO_930001
                                    clear HO_930002
                                    clear BK915
                                    clear BK916
                                    clear BK917
                                    clear BK929
                                    clear BK933
                                    clear BK937
                                    clear HB
                                    have HO_930000 := n0_
                                    have HO_930001 := n1_
                                    have HO_930002 := n2_
                                    have BK915 := n3_
                                    have BK916 := n4_
                                    have BK917 := n5_
                                    have BK929 := n6_
                                    have BK933 := n7_
                                    have BK937 := n8_
                                    have HB := n9_
                                    clear n0_ n1_ n2_ n3_ n4_ n5_ n6_ n7_ n8_ n9_
                                    (try clear hb)
                                    (try clear hb2)
                                    (try clear hk)
                                    (try clear hi)
                                    refine hK.out _ _ ⟨(blk_cell BK929.out 0).trans rfl, (blk_cell BK929.out 1).trans rfl, (blk_cell BK929.out 2).trans rfl, (blk_cell BK915.out 0).trans rfl, (blk_cell BK915.out 1).trans rfl, (blk_cell BK915.out 2).trans rfl, (blk_cell BK917.out 0).trans rfl, (blk_cell BK917.out 1).trans rfl, ((HB.out.cell (World.block_lt_of_cell? w _ hw945_0)).trans hw945_0), ((HB.out.cell (World.block_lt_of_cell? w _ hw946_0)).trans hw946_0)⟩ (fun hHeld => ?_)
                                    clear hK K
                                    refine norm_ (a' := ?_) ?_ ?_
                                    rotate_left
                                    · show Act.put _ (some 100) _ = _
                                      simp only [Act.put, List.setIfInBounds_toArray, List.set_cons_zero, List.set_cons_succ, i64_w, i32_w]
                                      rfl
                                    refine pure_ (i := 14) (N := some 86) (v := ?_) (a' := ?_) #[true, true, true, true, true, true, true, true, true, true, true, true, true, true, true, false, false, false, false, false] rfl rfl (any_of HT_.out (by kernel_rfl)) (fun _ _ _ h => h) (Or.inl ⟨by rfl, ?_⟩) ?_ ?_
                                    rotate_left
                                    · intro w'
                                      go_simp
                                      with_reducible rfl
                                    rotate_left
                                    · simp only [Act.put, List.setIfInBounds_toArray, List.set_cons_zero, List.set_cons_succ, i64_w, i32_w]
                                      rfl
                                    refine pure_ (i := 15) (N := some 101) (v := ?_) (a' := ?_) #[true, true, true, true, true, true, true, true, true, true, true, true, true, true, true, true, false, false, false, false] rfl rfl (any_of HT_.out (by kernel_rfl)) (fun _ _ _ h => h) (Or.inl ⟨by rfl, ?_⟩) ?_ ?_
                                    rotate_left
                                    · intro w'
                                      go_simp
                                      with_reducible rfl
                                    rotate_left
                                    · simp only [Act.put, List.setIfInBounds_toArray, List.set_cons_zero, List.set_cons_succ, i64_w, i32_w]
                                      rfl
                                    refine pure_ (i := 16) (N := some 102) (v := ?_) (a' := ?_) #[true, true, true, true, true, true, true, true, true, true, true, true, true, true, true, true, true, false, false, false] rfl rfl (any_of HT_.out (by kernel_rfl)) (fun _ _ _ h => h) (Or.inl ⟨by rfl, ?_⟩) ?_ ?_
                                    rotate_left
                                    · intro w'
                                      go_simp
                                      with_reducible rfl
                                    rotate_left
                                    · simp only [Act.put, List.setIfInBounds_toArray, List.set_cons_zero, List.set_cons_succ, i64_w, i32_w]
                                      rfl
                                    refine one_ (i := 17) (N := some 13) #[true, true, true, true, true, true, true, true, true, true, true, true, true, true, true, true, true, true, false, false] rfl rfl (one_of HT_.out (by kernel_rfl)) (by decide) (fun K hK => ?_)
                                    refine box_step ?hg (N := 13) ?hd (cs := #[.int .i64 0, .int .i64 0]) (t := 27) ?hr ?_; (case hd => rfl); (case hg => rfl); (case hr => first | (go_simp; done) | (go_simp; rfl))
                                    intro gb950 hg w155 hbox hb
                                    have n0_ := Aside0.mk (Kd.R_below (by (with_reducible repeat (first | apply Kd.R_alloc | apply Kd.R_drewN | apply Kd.R_drew)); exact HO_930000.out) hb)
                                    have n1_ := Aside0.mk (Kd.R_below (by (with_reducible repeat (first | apply Kd.R_alloc | apply Kd.R_drewN | apply Kd.R_drew)); exact HO_930001.out) hb)
                                    have n2_ := Aside0.mk (Kd.S_below (by (with_reducible repeat (first | apply Kd.S_alloc | apply Kd.S_drewN | apply Kd.S_drew)); exact HO_930002.out) hb)
                                    have n3_ := Aside0.mk (blk_below (g := gb915) (o := .cells #[.slice (some ad945) l0_0.length c0_0, .slice (some ad946) l0_1.length c0_1, .slice (some ad943) l0_2.length c0_2] 25 (0, 0)) (bk_ BK915.out) hb)
                                    have n4_ := Aside0.mk (blk_below (g := gb916) (o := .cells #[.int .i64 a1_0, .int .i64 a1_1] 50 (0, 0)) (bk_ BK916.out) hb)
                                    have n5_ := Aside0.mk (blk_below (g := gb917) (o := .cells #[.int .i64 a2_0, .int .i64 a2_1] 28 (0, 0)) (bk_ BK917.out) hb)
                                    have n6_ := Aside0.mk (blk_below (g := gb929) (o := .cells #[.slice Ao29 t920.length co29, .slice Ao34 t923.length co34, .slice Ao35 t926.length co35] 25 (0, 0)) (bk_ BK929.out) hb)
                                    have n7_ := Aside0.mk (blk_below (g := gb933) (o := .cells #[.int .i64 t930, .int .i64 t931] 27 (0, 0)) (bk_ BK933.out) hb)
                                    have n8_ := Aside0.mk (blk_below (g := gb937) (o := .cells #[.int .i64 t934, .int .i64 t935] 27 (0, 0)) (bk_ BK937.out) hb)
                                    have n9_ := Aside0.mk (below_step (bl_ HB.out) hb)
                                    have n10_ := Aside0.mk (hbox)
                                    have n11_ := Aside0.mk ((by rw [hg]; exact (below_size (bl_ HB.out)) : w.heap.size ≤ gb950))
                                    have n12_ := Aside0.mk ((by rw [hg]; exact (below_size (bl_ HB.out)) : w.heap.size ≤ gb950))
                                    have n13_ := Aside0.mk ((by rw [hg]; exact Nat.ne_of_lt (blk_lt (g := gb915) (o := .cells #[.slice (some ad945) l0_0.length c0_0, .slice (some ad946) l0_1.length c0_1, .slice (some ad943) l0_2.length c0_2] 25 (0, 0)) (bk_ BK915.out)) : gb915 ≠ gb950))
                                    have n14_ := Aside0.mk ((by rw [hg]; exact Nat.ne_of_gt (blk_lt (g := gb915) (o := .cells #[.slice (some ad945) l0_0.length c0_0, .slice (some ad946) l0_1.length c0_1, .slice (some ad943) l0_2.length c0_2] 25 (0, 0)) (bk_ BK915.out)) : gb950 ≠ gb915))
                                    have n15_ := Aside0.mk ((by rw [hg]; exact Nat.ne_of_lt (blk_lt (g := gb916) (o := .cells #[.int .i64 a1_0, .int .i64 a1_1] 50 (0, 0)) (bk_ BK916.out)) : gb916 ≠ gb950))
                                    have n16_ := Aside0.mk ((by rw [hg]; exact Nat.ne_of_gt (blk_lt (g := gb916) (o := .cells #[.int .i64 a1_0, .int .i64 a1_1] 50 (0, 0)) (bk_ BK916.out)) : gb950 ≠ gb916))
                                    have n17_ := Aside0.mk ((by rw [hg]; exact Nat.ne_of_lt (blk_lt (g := gb917) (o := .cells #[.int .i64 a2_0, .int .i64 a2_1] 28 (0, 0)) (bk_ BK917.out)) : gb917 ≠ gb950))
                                    have n18_ := Aside0.mk ((by rw [hg]; exact Nat.ne_of_gt (blk_lt (g := gb917) (o := .cells #[.int .i64 a2_0, .int .i64 a2_1] 28 (0, 0)) (bk_ BK917.out)) : gb950 ≠ gb917))
                                    have n19_ := Aside0.mk ((by rw [hg]; exact Nat.ne_of_lt (blk_lt (g := gb929) (o := .cells #[.slice Ao29 t920.length co29, .slice Ao34 t923.length co34, .slice Ao35 t926.length co35] 25 (0, 0)) (bk_ BK929.out)) : gb929 ≠ gb950))
                                    have n20_ := Aside0.mk ((by rw [hg]; exact Nat.ne_of_gt (blk_lt (g := gb929) (o := .cells #[.slice Ao29 t920.length co29, .slice Ao34 t923.length co34, .slice Ao35 t926.length co35] 25 (0, 0)) (bk_ BK929.out)) : gb950 ≠ gb929))
                                    have n21_ := Aside0.mk ((by rw [hg]; exact Nat.ne_of_lt (blk_lt (g := gb933) (o := .cells #[.int .i64 t930, .int .i64 t931] 27 (0, 0)) (bk_ BK933.out)) : gb933 ≠ gb950))
                                    have n22_ := Aside0.mk ((by rw [hg]; exact Nat.ne_of_gt (blk_lt (g := gb933) (o := .cells #[.int .i64 t930, .int .i64 t931] 27 (0, 0)) (bk_ BK933.out)) : gb950 ≠ gb933))
                                    have n23_ := Aside0.mk ((by rw [hg]; exact Nat.ne_of_lt (blk_lt (g := gb937) (o := .cells #[.int .i64 t934, .int .i64 t935] 27 (0, 0)) (bk_ BK937.out)) : gb937 ≠ gb950))
                                    have n24_ := Aside0.mk ((by rw [hg]; exact Nat.ne_of_gt (blk_lt (g := gb937) (o := .cells #[.int .i64 t934, .int .i64 t935] 27 (0, 0)) (bk_ BK937.out)) : gb950 ≠ gb937))
                                    clear HO_930000
                                    clear HO_930001
                                    clear HO_930002
                                    clear BK915
                                    clear BK916
                                    clear BK917
                                    clear BK929
                                    clear BK933
                                    clear BK937
                                    clear HB
                                    have HO_930000 := n0_
                                    have HO_930001 := n1_
                                    have HO_930002 := n2_
                                    have BK915 := n3_
                                    have BK916 := n4_
                                    have BK917 := n5_
                                    have BK929 := n6_
                                    have BK933 := n7_
                                    have BK937 := n8_
                                    have HB := n9_
                                    have BK950 := n10_
                                    have GW950 := n11_
                                    have GE950 := n12_
                                    have NB915_950 := n13_
                                    have NB950_915 := n14_
                                    have NB916_950 := n15_
                                    have NB950_916 := n16_
                                    have NB917_950 := n17_
                                    have NB950_917 := n18_
                                    have NB929_950 := n19_
                                    have NB950_929 := n20_
                                    have NB933_950 := n21_
                                    have NB950_933 := n22_
                                    have NB937_950 := n23_
                                    have NB950_937 := n24_
                                    clear n0_ n1_ n2_ n3_ n4_ n5_ n6_ n7_ n8_ n9_ n10_ n11_ n12_ n13_ n14_ n15_ n16_ n17_ n18_ n19_ n20_ n21_ n22_ n23_ n24_
                                    clear hb hbox hg
                                    refine hK.out _ _ ⟨(blk_cell BK929.out 0).trans rfl, (blk_cell BK929.out 1).trans rfl, (blk_cell BK929.out 2).trans rfl, (blk_cell BK915.out 0).trans rfl, (blk_cell BK915.out 1).trans rfl, (blk_cell BK915.out 2).trans rfl, (blk_cell BK917.out 0).trans rfl, (blk_cell BK917.out 1).trans rfl, ((HB.out.cell (World.block_lt_of_cell? w _ hw945_0)).trans hw945_0), ((HB.out.cell (World.block_lt_of_cell? w _ hw946_0)).trans hw946_0)⟩ (fun hHeld => ?_)
                                    clear hK K
                                    refine norm_ (a' := ?_) ?_ ?_
                                    rotate_left
                                    · show Act.put _ (some 13) _ = _
                                      simp only [Act.put, List.setIfInBounds_toArray, List.set_cons_zero, List.set_cons_succ, i64_w, i32_w]
                                      rfl
                                    exact norm_ (by simp only [putAll, Act.put, List.setIfInBounds_toArray, List.set_cons_zero, List.set_cons_succ]) (hCont (gb950) _ ⟨hHeld, (by (with_reducible repeat (first | apply Kd.R_alloc | apply Kd.R_drewN | apply Kd.R_drew)); exact HO_930000.out), (by (with_reducible repeat (first | apply Kd.R_alloc | apply Kd.R_drewN | apply Kd.R_drew)); exact HO_930001.out), (by (with_reducible repeat (first | apply Kd.S_alloc | apply Kd.S_drewN | apply Kd.S_drew)); exact HO_930002.out), (bk_ BK915.out), (bk_ BK916.out), (bk_ BK917.out), (bk_ BK929.out), (bk_ BK933.out), (bk_ BK937.out), (bk_ BK950.out), GW950.out, GE950.out, NB915_950.out, NB950_915.out, NB916_950.out, NB950_916.out, NB917_950.out, NB950_917.out, NB929_950.out, NB950_929.out, NB933_950.out, NB950_933.out, NB937_950.out, NB950_937.out, (bl_ HB.out)⟩)
                                  · skip
                                    refine box_step ?hg (N := 13) ?hd (cs := #[.int .i64 0, .int .i64 0]) (t := 27) ?hr ?_; (case hd => rfl); (case hg => rfl); (case hr => first | (go_simp; done) | (go_simp; rfl))
                                    intro gb950 hg w154 hbox hb
                                    have n0_ := Aside0.mk (Kd.R_below (by (with_reducible repeat (first | apply Kd.R_alloc | apply Kd.R_drewN | apply Kd.R_drew)); exact HO_930000.out) hb)
                                    have n1_ := Aside0.mk (Kd.R_below (by (with_reducible repeat (first | apply Kd.R_alloc | apply Kd.R_drewN | apply Kd.R_drew)); exact HO_930001.out) hb)
                                    have n2_ := Aside0.mk (Kd.S_below (by (with_reducible repeat (first | apply Kd.S_alloc | apply Kd.S_drewN | apply Kd.S_drew)); exact HO_930002.out) hb)
                                    have n3_ := Aside0.mk (blk_below (g := gb915) (o := .cells #[.slice (some ad945) l0_0.length c0_0, .slice (some ad946) l0_1.length c0_1, .slice (some ad943) l0_2.length c0_2] 25 (0, 0)) (bk_ BK915.out) hb)
                                    have n4_ := Aside0.mk (blk_below (g := gb916) (o := .cells #[.int .i64 a1_0, .int .i64 a1_1] 50 (0, 0)) (bk_ BK916.out) hb)
                                    have n5_ := Aside0.mk (blk_below (g := gb917) (o := .cells #[.int .i64 a2_0, .int .i64 a2_1] 28 (0, 0)) (bk_ BK917.out) hb)
                                    have n6_ := Aside0.mk (blk_below (g := gb929) (o := .cells #[.slice Ao29 t920.length co29, .slice Ao34 t923.length co34, .slice Ao35 t926.length co35] 25 (0, 0)) (bk_ BK929.out) hb)
                                    have n7_ := Aside0.mk (blk_below (g := gb933) (o := .cells #[.int .i64 t930, .int .i64 t931] 27 (0, 0)) (bk_ BK933.out) hb)
                                    have n8_ := Aside0.mk (blk_below (g := gb937) (o := .cells #[.int .i64 t934, .int .i64 t935] 27 (0, 0)) (bk_ BK937.out) hb)
                                    have n9_ := Aside0.mk (below_step (bl_ HB.out) hb)
                                    have n10_ := Aside0.mk (hbox)
                                    have n11_ := Aside0.mk ((by rw [hg]; exact (below_size (bl_ HB.out)) : w.heap.size ≤ gb950))
                                    have n12_ := Aside0.mk ((by rw [hg]; exact (below_size (bl_ HB.out)) : w.heap.size ≤ gb950))
                                    have n13_ := Aside0.mk ((by rw [hg]; exact Nat.ne_of_lt (blk_lt (g := gb915) (o := .cells #[.slice (some ad945) l0_0.length c0_0, .slice (some ad946) l0_1.length c0_1, .slice (some ad943) l0_2.length c0_2] 25 (0, 0)) (bk_ BK915.out)) : gb915 ≠ gb950))
                                    have n14_ := Aside0.mk ((by rw [hg]; exact Nat.ne_of_gt (blk_lt (g := gb915) (o := .cells #[.slice (some ad945) l0_0.length c0_0, .slice (some ad946) l0_1.length c0_1, .slice (some ad943) l0_2.length c0_2] 25 (0, 0)) (bk_ BK915.out)) : gb950 ≠ gb915))
                                    have n15_ := Aside0.mk ((by rw [hg]; exact Nat.ne_of_lt (blk_lt (g := gb916) (o := .cells #[.int .i64 a1_0, .int .i64 a1_1] 50 (0, 0)) (bk_ BK916.out)) : gb916 ≠ gb950))
                                    have n16_ := Aside0.mk ((by rw [hg]; exact Nat.ne_of_gt (blk_lt (g := gb916) (o := .cells #[.int .i64 a1_0, .int .i64 a1_1] 50 (0, 0)) (bk_ BK916.out)) : gb950 ≠ gb916))
                                    have n17_ := Aside0.mk ((by rw [hg]; exact Nat.ne_of_lt (blk_lt (g := gb917) (o := .cells #[.int .i64 a2_0, .int .i64 a2_1] 28 (0, 0)) (bk_ BK917.out)) : gb917 ≠ gb950))
                                    have n18_ := Aside0.mk ((by rw [hg]; exact Nat.ne_of_gt (blk_lt (g := gb917) (o := .cells #[.int .i64 a2_0, .int .i64 a2_1] 28 (0, 0)) (bk_ BK917.out)) : gb950 ≠ gb917))
                                    have n19_ := Aside0.mk ((by rw [hg]; exact Nat.ne_of_lt (blk_lt (g := gb929) (o := .cells #[.slice Ao29 t920.length co29, .slice Ao34 t923.length co34, .slice Ao35 t926.length co35] 25 (0, 0)) (bk_ BK929.out)) : gb929 ≠ gb950))
                                    have n20_ := Aside0.mk ((by rw [hg]; exact Nat.ne_of_gt (blk_lt (g := gb929) (o := .cells #[.slice Ao29 t920.length co29, .slice Ao34 t923.length co34, .slice Ao35 t926.length co35] 25 (0, 0)) (bk_ BK929.out)) : gb950 ≠ gb929))
                                    have n21_ := Aside0.mk ((by rw [hg]; exact Nat.ne_of_lt (blk_lt (g := gb933) (o := .cells #[.int .i64 t930, .int .i64 t931] 27 (0, 0)) (bk_ BK933.out)) : gb933 ≠ gb950))
                                    have n22_ := Aside0.mk ((by rw [hg]; exact Nat.ne_of_gt (blk_lt (g := gb933) (o := .cells #[.int .i64 t930, .int .i64 t931] 27 (0, 0)) (bk_ BK933.out)) : gb950 ≠ gb933))
                                    have n23_ := Aside0.mk ((by rw [hg]; exact Nat.ne_of_lt (blk_lt (g := gb937) (o := .cells #[.int .i64 t934, .int .i64 t935] 27 (0, 0)) (bk_ BK937.out)) : gb937 ≠ gb950))
                                    have n24_ := Aside0.mk ((by rw [hg]; exact Nat.ne_of_gt (blk_lt (g := gb937) (o := .cells #[.int .i64 t934, .int .i64 t935] 27 (0, 0)) (bk_ BK937.out)) : gb950 ≠ gb937))
                                    clear HO_930000
                                    clear HO_930001
                                    clear HO_930002
                                    clear BK915
                                    clear BK916
                                    clear BK917
                                    clear BK929
                                    clear BK933
                                    clear BK937
                                    clear HB
                                    have HO_930000 := n0_
                                    have HO_930001 := n1_
                                    have HO_930002 := n2_
                                    have BK915 := n3_
                                    have BK916 := n4_
                                    have BK917 := n5_
                                    have BK929 := n6_
                                    have BK933 := n7_
                                    have BK937 := n8_
                                    have HB := n9_
                                    have BK950 := n10_
                                    have GW950 := n11_
                                    have GE950 := n12_
                                    have NB915_950 := n13_
                                    have NB950_915 := n14_
                                    have NB916_950 := n15_
                                    have NB950_916 := n16_
                                    have NB917_950 := n17_
                                    have NB950_917 := n18_
                                    have NB929_950 := n19_
                                    have NB950_929 := n20_
                                    have NB933_950 := n21_
                                    have NB950_933 := n22_
                                    have NB937_950 := n23_
                                    have NB950_937 := n24_
                                    clear n0_ n1_ n2_ n3_ n4_ n5_ n6_ n7_ n8_ n9_ n10_ n11_ n12_ n13_ n14_ n15_ n16_ n17_ n18_ n19_ n20_ n21_ n22_ n23_ n24_
                                    clear hb hbox hg
                                    refine hK.out _ _ ⟨(blk_cell BK929.out 0).trans rfl, (blk_cell BK929.out 1).trans rfl, (blk_cell BK929.out 2).trans rfl, (blk_cell BK915.out 0).trans rfl, (blk_cell BK915.out 1).trans rfl, (blk_cell BK915.out 2).trans rfl, (blk_cell BK917.out 0).trans rfl, (blk_cell BK917.out 1).trans rfl, ((HB.out.cell (World.block_lt_of_cell? w _ hw945_0)).trans hw945_0), ((HB.out.cell (World.block_lt_of_cell? w _ hw946_0)).trans hw946_0)⟩ (fun hHeld => ?_)
                                    clear hK K
                                    refine norm_ (a' := ?_) ?_ ?_
                                    rotate_left
                                    · show Act.put _ (some 13) _ = _
                                      simp only [Act.put, List.setIfInBounds_toArray, List.set_cons_zero, List.set_cons_succ, i64_w, i32_w]
                                      rfl
                                    refine one_ (i := 13) (N := some 100) #[true, true, true, true, true, true, true, true, true, true, true, true, true, true, false, false, false, true, false, false] rfl rfl (one_of HT_.out (by kernel_rfl)) (by decide) (fun K hK => ?_)
                                    refine goes_ Try.func34 (by kernel_rfl) rfl #[.agg #[.slice Ao29 t920.length co29, .slice Ao34 t923.length co34, .slice Ao35 t926.length co35], .int .i64 (rd l0_0 a2_0), .int .i64 (rd l0_1 a2_1)] (by rfl) rfl rfl (by (try simp only [List.map_toArray, List.map_cons, List.map_nil]); first | done | rfl | (simp only [List.length_drop, List.length_take]; rfl)) ?_
                                    with_reducible refine (spans_At.calls kj99 _ _ t920 _ _ t923 _ _ t926 (rd l0_0 a2_0) (rd l0_1 a2_1) t947 t948 t949 _ ?side1 ?side2 ?side3 ?side4 ?side5 ?side6 A148.out).mono ?_
                                    (case side1 => exact cr_ (Kd.R_reads' HO_930000.out).2.2)
                                    (case side2 => exact (Kd.R_reads' HO_930000.out).2.1)
                                    (case side3 => exact cr_ (Kd.R_reads' HO_930001.out).2.2)
                                    (case side4 => exact (Kd.R_reads' HO_930001.out).2.1)
                                    (case side5 => exact cr_ (Kd.S_reads' HO_930002.out).2.2)
                                    (case side6 => exact (Kd.S_reads' HO_930002.out).2.1)
                                    rintro e w155 ⟨rfl, hb⟩
                                    refine ⟨_, rfl, ?_⟩
                                    have n0_ := Aside0.mk (Kd.R_below (by (with_reducible repeat (first | apply Kd.R_alloc | apply Kd.R_drewN | apply Kd.R_drew)); exact HO_930000.out) hb)
                                    have n1_ := Aside0.mk (Kd.R_below (by (with_reducible repeat (first | apply Kd.R_alloc | apply Kd.R_drewN | apply Kd.R_drew)); exact HO_930001.out) hb)
                                    have n2_ := Aside0.mk (Kd.S_below (by (with_reducible repeat (first | apply Kd.S_alloc | apply Kd.S_drewN | apply Kd.S_drew)); exact HO_930002.out) hb)
                                    have n3_ := Aside0.mk (blk_below (g := gb915) (o := .cells #[.slice (some ad945) l0_0.length c0_0, .slice (some ad946) l0_1.length c0_1, .slice (some ad943) l0_2.length c0_2] 25 (0, 0)) (bk_ BK915.out) hb)
                                    have n4_ := Aside0.mk (blk_below (g := gb916) (o := .cells #[.int .i64 a1_0, .int .i64 a1_1] 50 (0, 0)) (bk_ BK916.out) hb)
                                    have n5_ := Aside0.mk (blk_below (g := gb917) (o := .cells #[.int .i64 a2_0, .int .i64 a2_1] 28 (0, 0)) (bk_ BK917.out) hb)
                                    have n6_ := Aside0.mk (blk_below (g := gb929) (o := .cells #[.slice Ao29 t920.length co29, .slice Ao34 t923.length co34, .slice Ao35 t926.length co35] 25 (0, 0)) (bk_ BK929.out) hb)
                                    have n7_ := Aside0.mk (blk_below (g := gb933) (o := .cells #[.int .i64 t930, .int .i64 t931] 27 (0, 0)) (bk_ BK933.out) hb)
                                    have n8_ := Aside0.mk (blk_below (g := gb937) (o := .cells #[.int .i64 t934, .int .i64 t935] 27 (0, 0)) (bk_ BK937.out) hb)
                                    have n9_ := Aside0.mk (blk_below (g := gb950) (o := .cells #[.int .i64 0, .int .i64 0] 27 (0, 0)) (bk_ BK950.out) hb)
                                    have n10_ := Aside0.mk (below_step (bl_ HB.out) hb)
                                    clear HO_930000
                                    clear HO_930001
                                    clear HO_930002
                                    clear BK915
                                    clear BK916
                                    clear BK917
                                    clear BK929
                                    clear BK933
                                    clear BK937
                                    clear BK950
                                    clear HB
                                    have HO_930000 := n0_
                                    have HO_930001 := n1_
                                    have HO_930002 := n2_
                                    have BK915 := n3_
                                    have BK916 := n4_
                                    have BK917 := n5_
                                    have BK929 := n6_
                                    have BK933 := n7_
                                    have BK937 := n8_
                                    have BK950 := n9_
                                    have HB := n10_
                                    clear n0_ n1_ n2_ n3_ n4_ n5_ n6_ n7_ n8_ n9_ n10_
                                    (try clear hb)
                                    (try clear hb2)
                                    (try clear hk)
                                    (try clear hi)
                                    refine hK.out _ _ ⟨(blk_cell BK929.out 0).trans rfl, (blk_cell BK929.out 1).trans rfl, (blk_cell BK929.out 2).trans rfl, (blk_cell BK915.out 0).trans rfl, (blk_cell BK915.out 1).trans rfl, (blk_cell BK915.out 2).trans rfl, (blk_cell BK917.out 0).trans rfl, (blk_cell BK917.out 1).trans rfl, ((HB.out.cell (World.block_lt_of_cell? w _ hw945_0)).trans hw945_0), ((HB.out.cell (World.block_lt_of_cell? w _ hw946_0)).trans hw946_0)⟩ (fun hHeld => ?_)
                                    clear hK K
                                    refine norm_ (a' := ?_) ?_ ?_
                                    rotate_left
                                    · show Act.put _ (some 100) _ = _
                                      simp only [Act.put, List.setIfInBounds_toArray, List.set_cons_zero, List.set_cons_succ, i64_w, i32_w]
                                      rfl
                                    refine pure_ (i := 14) (N := some 86) (v := ?_) (a' := ?_) #[true, true, true, true, true, true, true, true, true, true, true, true, true, true, true, false, false, true, false, false] rfl rfl (any_of HT_.out (by kernel_rfl)) (fun _ _ _ h => h) (Or.inl ⟨by rfl, ?_⟩) ?_ ?_
                                    rotate_left
                                    · intro w'
                                      go_simp
                                      with_reducible rfl
                                    rotate_left
                                    · simp only [Act.put, List.setIfInBounds_toArray, List.set_cons_zero, List.set_cons_succ, i64_w, i32_w]
                                      rfl
                                    refine pure_ (i := 15) (N := some 101) (v := ?_) (a' := ?_) #[true, true, true, true, true, true, true, true, true, true, true, true, true, true, true, true, false, true, false, false] rfl rfl (any_of HT_.out (by kernel_rfl)) (fun _ _ _ h => h) (Or.inl ⟨by rfl, ?_⟩) ?_ ?_
                                    rotate_left
                                    · intro w'
                                      go_simp
                                      with_reducible rfl
                                    rotate_left
                                    · simp only [Act.put, List.setIfInBounds_toArray, List.set_cons_zero, List.set_cons_succ, i64_w, i32_w]
                                      rfl
                                    refine pure_ (i := 16) (N := some 102) (v := ?_) (a' := ?_) #[true, true, true, true, true, true, true, true, true, true, true, true, true, true, true, true, true, true, false, false] rfl rfl (any_of HT_.out (by kernel_rfl)) (fun _ _ _ h => h) (Or.inl ⟨by rfl, ?_⟩) ?_ ?_
                                    rotate_left
                                    · intro w'
                                      go_simp
                                      with_reducible rfl
                                    rotate_left
                                    · simp only [Act.put, List.setIfInBounds_toArray, List.set_cons_zero, List.set_cons_succ, i64_w, i32_w]
                                      rfl
                                    exact norm_ (by simp only [putAll, Act.put, List.setIfInBounds_toArray, List.set_cons_zero, List.set_cons_succ]) (hCont (gb950) _ ⟨hHeld, (by (with_reducible repeat (first | apply Kd.R_alloc | apply Kd.R_drewN | apply Kd.R_drew)); exact HO_930000.out), (by (with_reducible repeat (first | apply Kd.R_alloc | apply Kd.R_drewN | apply Kd.R_drew)); exact HO_930001.out), (by (with_reducible repeat (first | apply Kd.S_alloc | apply Kd.S_drewN | apply Kd.S_drew)); exact HO_930002.out), (bk_ BK915.out), (bk_ BK916.out), (bk_ BK917.out), (bk_ BK929.out), (bk_ BK933.out), (bk_ BK937.out), (bk_ BK950.out), GW950.out, GE950.out, NB915_950.out, NB950_915.out, NB916_950.out, NB950_916.out, NB917_950.out, NB950_917.out, NB929_950.out, NB950_929.out, NB933_950.out, NB950_933.out, NB937_950.out, NB950_937.out, (bl_ HB.out)⟩)
                                rintro gb950 w156 ⟨hS_, h0_, h1_, h2_, h3_, h4_, h5_, h6_, h7_, h8_, h9_, h10_, h11_, h12_, h13_, h14_, h15_, h16_, h17_, h18_, h19_, h20_, h21_, h22_, h23_, h24_⟩
                                have n0_ : Aside0 (Kd.R (Kd.int .i64) 3 w156 w.heap.size (fun k_ => some k_ ≠ (.slice Ao34 t923.length co34 : Value).ownBlock) (.slice Ao29 t920.length co29) t920) := ⟨h0_⟩
                                have n1_ : Aside0 (Kd.R (Kd.int .i64) 3 w156 w.heap.size (fun k_ => some k_ ≠ (.slice Ao29 t920.length co29 : Value).ownBlock) (.slice Ao34 t923.length co34) t923) := ⟨h1_⟩
                                have n2_ : Aside0 (Kd.S (Kd.slice 3 (Kd.int .i64)) 22 w156 w.heap.size (fun k_ => some k_ ≠ (.slice Ao29 t920.length co29 : Value).ownBlock ∧ some k_ ≠ (.slice Ao34 t923.length co34 : Value).ownBlock) (.slice Ao35 t926.length co35) t926) := ⟨h2_⟩
                                have n3_ : Aside0 (w156.heap[gb915]? = some (.cells #[.slice (some ad945) l0_0.length c0_0, .slice (some ad946) l0_1.length c0_1, .slice (some ad943) l0_2.length c0_2] 25 (0, 0))) := ⟨h3_⟩
                                have n4_ : Aside0 (w156.heap[gb916]? = some (.cells #[.int .i64 a1_0, .int .i64 a1_1] 50 (0, 0))) := ⟨h4_⟩
                                have n5_ : Aside0 (w156.heap[gb917]? = some (.cells #[.int .i64 a2_0, .int .i64 a2_1] 28 (0, 0))) := ⟨h5_⟩
                                have n6_ : Aside0 (w156.heap[gb929]? = some (.cells #[.slice Ao29 t920.length co29, .slice Ao34 t923.length co34, .slice Ao35 t926.length co35] 25 (0, 0))) := ⟨h6_⟩
                                have n7_ : Aside0 (w156.heap[gb933]? = some (.cells #[.int .i64 t930, .int .i64 t931] 27 (0, 0))) := ⟨h7_⟩
                                have n8_ : Aside0 (w156.heap[gb937]? = some (.cells #[.int .i64 t934, .int .i64 t935] 27 (0, 0))) := ⟨h8_⟩
                                have n9_ : Aside0 (w156.heap[gb950]? = some (.cells #[.int .i64 0, .int .i64 0] 27 (0, 0))) := ⟨h9_⟩
                                have n10_ : Aside0 (w.heap.size ≤ gb950) := ⟨h10_⟩
                                have n11_ : Aside0 (w.heap.size ≤ gb950) := ⟨h11_⟩
                                have n12_ : Aside0 (gb915 ≠ gb950) := ⟨h12_⟩
                                have n13_ : Aside0 (gb950 ≠ gb915) := ⟨h13_⟩
                                have n14_ : Aside0 (gb916 ≠ gb950) := ⟨h14_⟩
                                have n15_ : Aside0 (gb950 ≠ gb916) := ⟨h15_⟩
                                have n16_ : Aside0 (gb917 ≠ gb950) := ⟨h16_⟩
                                have n17_ : Aside0 (gb950 ≠ gb917) := ⟨h17_⟩
                                have n18_ : Aside0 (gb929 ≠ gb950) := ⟨h18_⟩
                                have n19_ : Aside0 (gb950 ≠ gb929) := ⟨h19_⟩
                                have n20_ : Aside0 (gb933 ≠ gb950) := ⟨h20_⟩
                                have n21_ : Aside0 (gb950 ≠ gb933) := ⟨h21_⟩
                                have n22_ : Aside0 (gb937 ≠ gb950) := ⟨h22_⟩
                                have n23_ : Aside0 (gb950 ≠ gb937) := ⟨h23_⟩
                                have n24_ : Aside0 (Below w.heap.size w w156) := ⟨h24_⟩
                                clear HO_930000
                                clear HO_930001
                                clear HO_930002
                                clear BK915
                                clear BK916
                                clear BK917
                                clear BK929
                                clear BK933
                                clear BK937
                                clear HB
                                clear h0_ h1_ h2_ h3_ h4_ h5_ h6_ h7_ h8_ h9_ h10_ h11_ h12_ h13_ h14_ h15_ h16_ h17_ h18_ h19_ h20_ h21_ h22_ h23_ h24_
                                have HO_930000 := n0_
                                have HO_930001 := n1_
                                have HO_930002 := n2_
                                have BK915 := n3_
                                have BK916 := n4_
                                have BK917 := n5_
                                have BK929 := n6_
                                have BK933 := n7_
                                have BK937 := n8_
                                have BK950 := n9_
                                have GW950 := n10_
                                have GE950 := n11_
                                have NB915_950 := n12_
                                have NB950_915 := n13_
                                have NB916_950 := n14_
                                have NB950_916 := n15_
                                have NB917_950 := n16_
                                have NB950_917 := n17_
                                have NB929_950 := n18_
                                have NB950_929 := n19_
                                have NB933_950 := n20_
                                have NB950_933 := n21_
                                have NB937_950 := n22_
                                have NB950_937 := n23_
                                have HB := n24_
                                clear n0_ n1_ n2_ n3_ n4_ n5_ n6_ n7_ n8_ n9_ n10_ n11_ n12_ n13_ n14_ n15_ n16_ n17_ n18_ n19_ n20_ n21_ n22_ n23_ n24_
                                have hHeld : w156.cell? ⟨gb929, 0, none⟩ = some (.slice Ao29 t920.length co29) ∧ w156.cell? ⟨gb929, 1, none⟩ = some (.slice Ao34 t923.length co34) ∧ w156.cell? ⟨gb929, 2, none⟩ = some (.slice Ao35 t926.length co35) ∧ w156.cell? ⟨gb915, 0, none⟩ = some (.slice (some ad945) l0_0.length c0_0) ∧ w156.cell? ⟨gb915, 1, none⟩ = some (.slice (some ad946) l0_1.length c0_1) ∧ w156.cell? ⟨gb915, 2, none⟩ = some (.slice (some ad943) l0_2.length c0_2) ∧ w156.cell? ⟨gb917, 0, none⟩ = some (.int .i64 a2_0) ∧ w156.cell? ⟨gb917, 1, none⟩ = some (.int .i64 a2_1) ∧ w156.cell? (ad945.add (a2_0).toNat) = some (.int .i64 (rd l0_0 a2_0)) ∧ w156.cell? (ad946.add (a2_1).toNat) = some (.int .i64 (rd l0_1 a2_1)) := hS_
                                refine norm_ (a' := ?_) ?_ ?_
                                rotate_left
                                · simp only [putAll, Act.put, List.setIfInBounds_toArray, List.set_cons_zero, List.set_cons_succ]
                                  rfl
                                refine one_ (i := 18) (N := none) #[true, true, true, true, true, true, true, true, true, true, true, true, true, true, true, true, true, true, true, false] rfl rfl (one_of HT_.out (by kernel_rfl)) (by decide) (fun K hK => ?_)
                                have hs157 : w156.cell? ⟨gb950, 0, none⟩ = some (.int .i64 0) := (blk_cell BK950.out 0).trans rfl
                                have hfs157 := blk_frozen BK950.out 0
                                have hns157_0 := NB915_950.out
                                have hns157_1 := NB916_950.out
                                have hns157_2 := NB917_950.out
                                have hns157_3 := NB929_950.out
                                have hns157_4 := NB933_950.out
                                have hns157_5 := NB937_950.out
                                have hms157_0 := NB950_915.out
                                have hms157_1 := NB950_916.out
                                have hms157_2 := NB950_917.out
                                have hms157_3 := NB950_929.out
                                have hms157_4 := NB950_933.out
                                have hms157_5 := NB950_937.out
                                have hs158 : w156.cell? ⟨gb950, 1, none⟩ = some (.int .i64 0) := (blk_cell BK950.out 1).trans rfl
                                have hfs158 := blk_frozen BK950.out 1
                                have hns158_0 := NB915_950.out
                                have hns158_1 := NB916_950.out
                                have hns158_2 := NB917_950.out
                                have hns158_3 := NB929_950.out
                                have hns158_4 := NB933_950.out
                                have hns158_5 := NB937_950.out
                                have hms158_0 := NB950_915.out
                                have hms158_1 := NB950_916.out
                                have hms158_2 := NB950_917.out
                                have hms158_3 := NB950_929.out
                                have hms158_4 := NB950_933.out
                                have hms158_5 := NB950_937.out
                                refine skip_ (w1 := ?_) (by rfl) rfl ?_ ?_
                                rotate_left
                                · go_simp
                                  rfl
                                refine hK.out _ _ ⟨((cell_far (p := ⟨gb950, _, none⟩) NB929_950.out _).trans (((cell_far (p := ⟨gb950, _, none⟩) NB929_950.out _).trans (hHeld.1)))), ((cell_far (p := ⟨gb950, _, none⟩) NB929_950.out _).trans (((cell_far (p := ⟨gb950, _, none⟩) NB929_950.out _).trans (hHeld.2.1)))), ((cell_far (p := ⟨gb950, _, none⟩) NB929_950.out _).trans (((cell_far (p := ⟨gb950, _, none⟩) NB929_950.out _).trans (hHeld.2.2.1)))), ((cell_far (p := ⟨gb950, _, none⟩) NB915_950.out _).trans (((cell_far (p := ⟨gb950, _, none⟩) NB915_950.out _).trans (hHeld.2.2.2.1)))), ((cell_far (p := ⟨gb950, _, none⟩) NB915_950.out _).trans (((cell_far (p := ⟨gb950, _, none⟩) NB915_950.out _).trans (hHeld.2.2.2.2.1)))), ((cell_far (p := ⟨gb950, _, none⟩) NB915_950.out _).trans (((cell_far (p := ⟨gb950, _, none⟩) NB915_950.out _).trans (hHeld.2.2.2.2.2.1)))), ((cell_far (p := ⟨gb950, _, none⟩) NB917_950.out _).trans (((cell_far (p := ⟨gb950, _, none⟩) NB917_950.out _).trans (hHeld.2.2.2.2.2.2.1)))), ((cell_far (p := ⟨gb950, _, none⟩) NB917_950.out _).trans (((cell_far (p := ⟨gb950, _, none⟩) NB917_950.out _).trans (hHeld.2.2.2.2.2.2.2.1)))), ((cell_far (p := ⟨gb950, _, none⟩) (by first | exact Nat.ne_of_lt (Nat.lt_of_lt_of_le (by have := World.block_lt_of_cell? _ _ hw945_0; first | rwa [add_block] at this | exact this) GW950.out) | (rw [add_block]; exact Nat.ne_of_lt (Nat.lt_of_lt_of_le (by have := World.block_lt_of_cell? _ _ hw945_0; first | rwa [add_block] at this | exact this) GW950.out)) | (show (Addr.add _ _).block ≠ _; rw [add_block]; exact Nat.ne_of_lt (Nat.lt_of_lt_of_le (by have := World.block_lt_of_cell? _ _ hw945_0; first | rwa [add_block] at this | exact this) GW950.out)) | (dsimp only; exact Nat.ne_of_lt (Nat.lt_of_lt_of_le (by have := World.block_lt_of_cell? _ _ hw945_0; first | rwa [add_block] at this | exact this) GW950.out))) _).trans (((cell_far (p := ⟨gb950, _, none⟩) (by first | exact Nat.ne_of_lt (Nat.lt_of_lt_of_le (by have := World.block_lt_of_cell? _ _ hw945_0; first | rwa [add_block] at this | exact this) GW950.out) | (rw [add_block]; exact Nat.ne_of_lt (Nat.lt_of_lt_of_le (by have := World.block_lt_of_cell? _ _ hw945_0; first | rwa [add_block] at this | exact this) GW950.out)) | (show (Addr.add _ _).block ≠ _; rw [add_block]; exact Nat.ne_of_lt (Nat.lt_of_lt_of_le (by have := World.block_lt_of_cell? _ _ hw945_0; first | rwa [add_block] at this | exact this) GW950.out)) | (dsimp only; exact Nat.ne_of_lt (Nat.lt_of_lt_of_le (by have := World.block_lt_of_cell? _ _ hw945_0; first | rwa [add_block] at this | exact this) GW950.out))) _).trans (hHeld.2.2.2.2.2.2.2.2.1)))), ((cell_far (p := ⟨gb950, _, none⟩) (by first | exact Nat.ne_of_lt (Nat.lt_of_lt_of_le (by have := World.block_lt_of_cell? _ _ hw946_0; first | rwa [add_block] at this | exact this) GW950.out) | (rw [add_block]; exact Nat.ne_of_lt (Nat.lt_of_lt_of_le (by have := World.block_lt_of_cell? _ _ hw946_0; first | rwa [add_block] at this | exact this) GW950.out)) | (show (Addr.add _ _).block ≠ _; rw [add_block]; exact Nat.ne_of_lt (Nat.lt_of_lt_of_le (by have := World.block_lt_of_cell? _ _ hw946_0; first | rwa [add_block] at this | exact this) GW950.out)) | (dsimp only; exact Nat.ne_of_lt (Nat.lt_of_lt_of_le (by have := World.block_lt_of_cell? _ _ hw946_0; first | rwa [add_block] at this | exact this) GW950.out))) _).trans (((cell_far (p := ⟨gb950, _, none⟩) (by first | exact Nat.ne_of_lt (Nat.lt_of_lt_of_le (by have := World.block_lt_of_cell? _ _ hw946_0; first | rwa [add_block] at this | exact this) GW950.out) | (rw [add_block]; exact Nat.ne_of_lt (Nat.lt_of_lt_of_le (by have := World.block_lt_of_cell? _ _ hw946_0; first | rwa [add_block] at this | exact this) GW950.out)) | (show (Addr.add _ _).block ≠ _; rw [add_block]; exact Nat.ne_of_lt (Nat.lt_of_lt_of_le (by have := World.block_lt_of_cell? _ _ hw946_0; first | rwa [add_block] at this | exact this) GW950.out)) | (dsimp only; exact Nat.ne_of_lt (Nat.lt_of_lt_of_le (by have := World.block_lt_of_cell? _ _ hw946_0; first | rwa [add_block] at this | exact this) GW950.out))) _).trans (hHeld.2.2.2.2.2.2.2.2.2))))⟩ (fun hHeld => ?_)
                                clear hK K
                                refine pure_ (i := 19) (N := some 14) (v := ?_) (a' := ?_) #[true, true, true, true, true, true, true, true, true, true, true, true, true, true, true, true, true, true, true, true] rfl rfl (any_of HT_.out (by kernel_rfl)) (fun _ _ _ h => h) (Or.inl ⟨by rfl, ?_⟩) ?_ ?_
                                rotate_left
                                · intro w'
                                  go_simp
                                  with_reducible rfl
                                rotate_left
                                · simp only [Act.put, List.setIfInBounds_toArray, List.set_cons_zero, List.set_cons_succ, i64_w, i32_w]
                                  rfl
                                refine done_ (done_of HT_.out (by kernel_rfl)) ?_
                                have hnb159 := NB950_915.out
                                have hnc159 := NB915_950.out
                                have hnb160 := NB950_916.out
                                have hnc160 := NB916_950.out
                                have hnb161 := NB950_917.out
                                have hnc161 := NB917_950.out
                                have hnb162 := NB950_929.out
                                have hnc162 := NB929_950.out
                                have hnb163 := NB950_933.out
                                have hnc163 := NB933_950.out
                                have hnb164 := NB950_937.out
                                have hnc164 := NB937_950.out
                                have hcz165_0 : w156.cell? ⟨gb950, 0, none⟩ = some (.int .i64 0) := (blk_cell BK950.out 0).trans rfl
                                have hcz165_1 : w156.cell? ⟨gb950, 1, none⟩ = some (.int .i64 0) := (blk_cell BK950.out 1).trans rfl
                                have hfz165_0 := blk_frozen BK950.out 0
                                have hfz165_1 := blk_frozen BK950.out 1
                                try go_wp2_with (first | (go_at_call 22; (with_reducible refine (swashplatelaw01_works.calls kj99  t951 _ A151.out).mono ?_); rintro e w166 ⟨rfl, hb⟩; have n0_ := Aside0.mk (Kd.R_below (by (with_reducible repeat (first | apply Kd.R_alloc | apply Kd.R_drewN | apply Kd.R_drew)); exact (Kd.R_mono (Kd.R_far (p := ⟨gb950, 1, none⟩) (Kd.R_far (p := ⟨gb950, 0, none⟩) (Kd.R_types HO_930000.out BK950.out (by decide)) (fun _ hk => hk.2) (.int .i64 t947)) (fun _ hk => hk.2) (.int .i64 t948)) (fun _ h_ => h_.1))) hb); have n1_ := Aside0.mk (Kd.R_below (by (with_reducible repeat (first | apply Kd.R_alloc | apply Kd.R_drewN | apply Kd.R_drew)); exact (Kd.R_mono (Kd.R_far (p := ⟨gb950, 1, none⟩) (Kd.R_far (p := ⟨gb950, 0, none⟩) (Kd.R_types HO_930001.out BK950.out (by decide)) (fun _ hk => hk.2) (.int .i64 t947)) (fun _ hk => hk.2) (.int .i64 t948)) (fun _ h_ => h_.1))) hb); have n2_ := Aside0.mk (Kd.S_below (by (with_reducible repeat (first | apply Kd.S_alloc | apply Kd.S_drewN | apply Kd.S_drew)); exact (Kd.S_mono (Kd.S_far (p := ⟨gb950, 1, none⟩) (Kd.S_far (p := ⟨gb950, 0, none⟩) (Kd.S_types HO_930002.out BK950.out (by decide)) (fun _ hk => hk.2) (.int .i64 t947)) (fun _ hk => hk.2) (.int .i64 t948)) (fun _ h_ => h_.1))) hb); have n3_ := Aside0.mk (blk_below (g := gb915) (o := .cells #[.slice (some ad945) l0_0.length c0_0, .slice (some ad946) l0_1.length c0_1, .slice (some ad943) l0_2.length c0_2] 25 (0, 0)) (by (with_reducible repeat (first | refine blk_drewN ?_ _ | refine blk_drew ?_ | refine blk_alloc ?_ _)); refine blk_far ?_ NB915_950.out _; (with_reducible repeat (first | refine blk_drewN ?_ _ | refine blk_drew ?_ | refine blk_alloc ?_ _)); refine blk_far ?_ NB915_950.out _; (with_reducible repeat (first | refine blk_drewN ?_ _ | refine blk_drew ?_ | refine blk_alloc ?_ _)); exact BK915.out) hb); have n4_ := Aside0.mk (blk_below (g := gb916) (o := .cells #[.int .i64 a1_0, .int .i64 a1_1] 50 (0, 0)) (by (with_reducible repeat (first | refine blk_drewN ?_ _ | refine blk_drew ?_ | refine blk_alloc ?_ _)); refine blk_far ?_ NB916_950.out _; (with_reducible repeat (first | refine blk_drewN ?_ _ | refine blk_drew ?_ | refine blk_alloc ?_ _)); refine blk_far ?_ NB916_950.out _; (with_reducible repeat (first | refine blk_drewN ?_ _ | refine blk_drew ?_ | refine blk_alloc ?_ _)); exact BK916.out) hb); have n5_ := Aside0.mk (blk_below (g := gb917) (o := .cells #[.int .i64 a2_0, .int .i64 a2_1] 28 (0, 0)) (by (with_reducible repeat (first | refine blk_drewN ?_ _ | refine blk_drew ?_ | refine blk_alloc ?_ _)); refine blk_far ?_ NB917_950.out _; (with_reducible repeat (first | refine blk_drewN ?_ _ | refine blk_drew ?_ | refine blk_alloc ?_ _)); refine blk_far ?_ NB917_950.out _; (with_reducible repeat (first | refine blk_drewN ?_ _ | refine blk_drew ?_ | refine blk_alloc ?_ _)); exact BK917.out) hb); have n6_ := Aside0.mk (blk_below (g := gb929) (o := .cells #[.slice Ao29 t920.length co29, .slice Ao34 t923.length co34, .slice Ao35 t926.length co35] 25 (0, 0)) (by (with_reducible repeat (first | refine blk_drewN ?_ _ | refine blk_drew ?_ | refine blk_alloc ?_ _)); refine blk_far ?_ NB929_950.out _; (with_reducible repeat (first | refine blk_drewN ?_ _ | refine blk_drew ?_ | refine blk_alloc ?_ _)); refine blk_far ?_ NB929_950.out _; (with_reducible repeat (first | refine blk_drewN ?_ _ | refine blk_drew ?_ | refine blk_alloc ?_ _)); exact BK929.out) hb); have n7_ := Aside0.mk (blk_below (g := gb933) (o := .cells #[.int .i64 t930, .int .i64 t931] 27 (0, 0)) (by (with_reducible repeat (first | refine blk_drewN ?_ _ | refine blk_drew ?_ | refine blk_alloc ?_ _)); refine blk_far ?_ NB933_950.out _; (with_reducible repeat (first | refine blk_drewN ?_ _ | refine blk_drew ?_ | refine blk_alloc ?_ _)); refine blk_far ?_ NB933_950.out _; (with_reducible repeat (first | refine blk_drewN ?_ _ | refine blk_drew ?_ | refine blk_alloc ?_ _)); exact BK933.out) hb); have n8_ := Aside0.mk (blk_below (g := gb937) (o := .cells #[.int .i64 t934, .int .i64 t935] 27 (0, 0)) (by (with_reducible repeat (first | refine blk_drewN ?_ _ | refine blk_drew ?_ | refine blk_alloc ?_ _)); refine blk_far ?_ NB937_950.out _; (with_reducible repeat (first | refine blk_drewN ?_ _ | refine blk_drew ?_ | refine blk_alloc ?_ _)); refine blk_far ?_ NB937_950.out _; (with_reducible repeat (first | refine blk_drewN ?_ _ | refine blk_drew ?_ | refine blk_alloc ?_ _)); exact BK937.out) hb); have n9_ := Aside0.mk (blk_below (g := gb950) (o := .cells #[.int .i64 t947, .int .i64 t948] 27 (0, 0)) (by (with_reducible repeat (first | refine blk_drewN ?_ _ | refine blk_drew ?_ | refine blk_alloc ?_ _)); refine blk_put (cs := #[.int .i64 t947, .int .i64 0]) ?_ 1 _ rfl; (with_reducible repeat (first | refine blk_drewN ?_ _ | refine blk_drew ?_ | refine blk_alloc ?_ _)); refine blk_put (cs := #[.int .i64 0, .int .i64 0]) ?_ 0 _ rfl; (with_reducible repeat (first | refine blk_drewN ?_ _ | refine blk_drew ?_ | refine blk_alloc ?_ _)); exact BK950.out) hb); have n10_ := Aside0.mk (below_step (bl_ HB.out) hb); clear HO_930000; clear HO_930001; clear HO_930002; clear BK915; clear BK916; clear BK917; clear BK929; clear BK933; clear BK937; clear BK950; clear HB; have HO_930000 := n0_; have HO_930001 := n1_; have HO_930002 := n2_; have BK915 := n3_; have BK916 := n4_; have BK917 := n5_; have BK929 := n6_; have BK933 := n7_; have BK937 := n8_; have BK950 := n9_; have HB := n10_; clear n0_ n1_ n2_ n3_ n4_ n5_ n6_ n7_ n8_ n9_ n10_; (try clear hb); (try clear hb2); (try clear hk); (try clear hi)))
                                go_ret
                                exact ⟨by first | rfl | (simp [errW_none, errW_some] <;> rfl) | (simp [*, errW_none, errW_some] <;> rfl), bl_ HB.out⟩
                              · rw [if_neg c150] at H
                                have c150b0 : (t947 == (rd (rd_L3 l0_2 a2_0) a2_1) && (t948 == (rd (rd_L3 l0_2 a2_0) a2_1))) = false := by simpa using c150
                                (try (have c150b1 : decide (t947 = (rd (rd_L3 l0_2 a2_0) a2_1) && (t948 == (rd (rd_L3 l0_2 a2_0) a2_1))) = false := by simpa using c150))
                                (try (have c150b2 : (t947 == (rd (rd_L3 l0_2 a2_0) a2_1) && (t948 == (rd (rd_L3 l0_2 a2_0) a2_1))) = false := by simpa using c150))
                                (try (have c150b3 : ¬ (t947 = (rd (rd_L3 l0_2 a2_0) a2_1) && (t948 == (rd (rd_L3 l0_2 a2_0) a2_1))) := by simpa using c150))
                                clear c150
                                exact absurd ((Option.some.inj H).trans hrT.out) (by decide)
                            · rw [if_neg c149] at H
                              have c149b0 : (t949 == 0) = false := beq_eq_false_iff_ne.mpr c149
                              have c149b1 : (t949 != 0) = true := bne_iff_ne.mpr c149
                              exact absurd ((Option.some.inj H).trans hrT.out) (by decide)
                          · rw [if_neg c147] at H
                            exact absurd H (by simp)
                        · rw [if_neg c146] at H
                          exact absurd H (by simp)
                      · rw [if_neg c145] at H
                        exact absurd H (by simp)
                    · rw [if_neg c144] at H
                      exact absurd H (by simp)
                  · rw [if_neg c143] at H
                    exact absurd H (by simp)
                · rw [if_neg c142] at H
                  exact absurd H (by simp)
end Go.Proofs.Yteodlmgmmpkpoaa.PS
end
section
namespace Go.Proofs.Yteodlmgmmpkpoaa.PS
open Go.RowKit Go.Proofs.YteodlmgmmpkpoaaW.PrintWords Go.Proofs.YteodlmgmmpkpoaaW.PrintLast Go.Proofs.YteodlmgmmpkpoaaW.PrintMore
set_option linter.unusedVariables false
def atR (X Y : List Int) (V : List (List Int)) (x y : Int) : Int × Int × Int :=
  if tableB X Y V then (if onB X x x && onB Y y y then (flP (ptAt X Y V x y), ceP (ptAt X Y V x y), 0) else (0, 0, 1)) else (0, 0, 11)
theorem good_ce {p : Pt} (h : GoodP p) : spans_ceil.f p.n p.d = some (ceP p) := by
  obtain ⟨h1, h2, h3, h4⟩ := h
  exact ceil_total _ _ h1 (by omega) (by omega)
theorem at_total (X Y : List Int) (V : List (List Int)) (x y : Int) (k : Nat) (hk : 0 < k) : spans_At.f k X Y V x y = some (atR X Y V x y) := by
  obtain ⟨k, rfl⟩ : ∃ m, k = m + 1 := ⟨k - 1, by omega⟩
  unfold spans_At.f atR spans_CheckTable.f
  simp only [spans_At.j0]
  rw [Option.bind_some]
  cases ht : tableB X Y V with
  | false => rfl
  | true =>
    obtain ⟨⟨x0, x1⟩, y0, y1⟩ := tb_lens ht
    rw [if_pos rfl, if_pos rfl, if_pos rfl, lies_total x0 (by omega), Option.bind_some, lies_total y0 (by omega), Option.bind_some]
    cases hx : onB X x x with
    | false => rfl
    | true =>
      cases hy : onB Y y y with
      | false => rfl
      | true =>
        have hg := good_at ht hx hy
        unfold spans_at.f
        rw [ht, hx, hy, if_pos rfl, if_neg (by simp), if_pos (by rfl), if_pos (by rfl), Option.bind_some]
        dsimp only
        rw [good_fl hg, Option.bind_some, good_ce hg]
        rfl
theorem rat_total (X Y : List Int) (V : List (List Int)) (hx : X.length ≤ 15) (hy : Y.length ≤ 15) (hv : V.length ≤ 15) (hr : ∀ r ∈ V, r.length ≤ 15) (x y : Int) (k : Nat) (hk : 701 < k) : swashplateref01_At.f k X Y V x y = some (atR X Y V x y) := by
  obtain ⟨k, rfl⟩ : ∃ m, k = m + 1 := ⟨k - 1, by omega⟩
  unfold swashplateref01_At.f atR
  simp only [swashplateref01_At.j0]
  rw [rtable_total X Y V hx hy hv hr (k + 1) (by omega), Option.bind_some]
  cases ht : tableB X Y V with
  | false => rfl
  | true =>
    obtain ⟨⟨x0, x1⟩, y0, y1⟩ := tb_lens ht
    rw [if_pos rfl, if_pos rfl, if_pos rfl, between_total x0 (by omega), Option.bind_some, between_total y0 (by omega), Option.bind_some]
    cases hx : onB X x x with
    | false => rfl
    | true =>
      cases hy : onB Y y y with
      | false => rfl
      | true =>
        have hg := good_ref ht hx hy
        have he := pt_eq (tb_of ht) hx hy
        rw [value_total ht hx hy, if_pos rfl, if_neg (by simp), if_pos (by rfl), Option.bind_some]
        dsimp only
        rw [good_rfl hg, Option.bind_some, good_rce hg, he.1, he.2]
        rfl
theorem knot_spot {l : List Int} (h : Ax l) {i c : Nat} (hi : i < l.length) (s : Spot l (gI l i) c) : i = c ∨ i = c + 1 := by
  have h1 := s.lo; have h2 := s.hi; have h3 := s.lt
  rcases Nat.lt_trichotomy i c with hlt | heq | hgt
  · have := h.asc i c hlt (by omega); omega
  · exact .inl heq
  · by_cases he : i = c + 1
    · exact .inr he
    · have := h.asc (c + 1) i (by omega) hi; omega
theorem knot_val {X Y : List Int} {V : List (List Int)} (t : Tb X Y V) {i k : Nat} (hi : i < X.length) (hk : k < Y.length) {c e : Nat} (sx : Spot X (gI X i) c) (sy : Spot Y (gI Y k) e) :
    numAt X Y V c e (gI X i) (gI Y k) = gV V i k * denAt X Y c e := by
  unfold numAt denAt
  rcases knot_spot t.ax hi sx with rfl | rfl <;> rcases knot_spot t.ay hk sy with rfl | rfl <;>
    (simp only [Int.sub_self, Int.zero_mul, Int.mul_zero, Int.add_zero, Int.zero_add]; exact Int.mul_comm _ _)
theorem whole_fl {p : Pt} {v : Int} (hd : 0 < p.d) (h : p.n = v * p.d) : flP p = v ∧ ceP p = v := by
  unfold flP ceP
  rw [h, Int.mul_ediv_cancel _ (by omega), ← Int.neg_mul, Int.mul_ediv_cancel _ (by omega)]
  omega
theorem knot_on {l : List Int} (h : Ax l) {i : Nat} (hi : i < l.length) : onB l (gI l i) (gI l i) = true := by
  rw [onB_iff]
  constructor
  · by_cases h0 : i = 0
    · subst h0; exact Int.le_refl _
    · have := h.asc 0 i (by omega) hi; omega
  · by_cases h0 : i = l.length - 1
    · subst h0; exact Int.le_refl _
    · have := h.asc i (l.length - 1) (by omega) (by omega); omega
theorem at_knot {X Y : List Int} {V : List (List Int)} (ht : tableB X Y V = true) {i k : Nat} (hi : i < X.length) (hk : k < Y.length) : atR X Y V (gI X i) (gI Y k) = (gV V i k, gV V i k, 0) := by
  have t := tb_of ht
  have ox := knot_on t.ax hi
  have oy := knot_on t.ay hk
  have hw := whole_fl (p := ptAt X Y V (gI X i) (gI Y k)) (good_at ht ox oy).1 (knot_val t hi hk (cell_spot t.ax ox) (cell_spot t.ay oy))
  unfold atR
  rw [ht, if_pos rfl, ox, oy, if_pos (by rfl), hw.1, hw.2]
theorem sints_loop (l : List Int) (hl : l.length ≤ 1000000) : ∀ (k i : Nat), i ≤ l.length → l.length - i < k → swashplatelaw01_sameInts.l0 k l l i = some true
  | 0, i, _, h => absurd h (Nat.not_lt_zero _)
  | k + 1, i, hi, hk => by
    simp only [swashplatelaw01_sameInts.l0]
    by_cases hlt : i < l.length
    · rw [if_pos (by omega), if_pos (by omega), if_pos (by omega), if_pos trivial, step64 i (by omega)]
      exact sints_loop l hl k (i + 1) (by omega) (by omega)
    · rw [if_neg (by omega)]
theorem sints_total (l : List Int) (hl : l.length ≤ 1000000) (k : Nat) (hk : l.length < k) : swashplatelaw01_sameInts.f k l l = some true := by
  unfold swashplatelaw01_sameInts.f
  rw [if_pos rfl]
  exact sints_loop l hl k 0 (Nat.zero_le _) (by omega)
theorem stable_loop (X Y : List Int) (V : List (List Int)) (hv : V.length ≤ 15) (hr : ∀ r ∈ V, r.length ≤ 15) : ∀ (k i : Nat), i ≤ V.length → V.length - i + 20 < k → swashplatelaw01_sameTable.l0 k i X Y V X Y V = some true
  | 0, i, _, h => absurd h (Nat.not_lt_zero _)
  | k + 1, i, hi, hk => by
    simp only [swashplatelaw01_sameTable.l0]
    by_cases hlt : i < V.length
    · have hrow := hr (V.getD i []) (getD_mem V [] i hlt)
      rw [if_pos (by omega), if_pos (by omega), if_pos (by omega), rdL3_nat, sints_total _ (by omega) k (by omega), Option.bind_some, if_pos rfl, step64 i (by omega)]
      exact stable_loop X Y V hv hr k (i + 1) (by omega) (by omega)
    · rw [if_neg (by omega)]
theorem stable_total (X Y : List Int) (V : List (List Int)) (hx : X.length ≤ 15) (hy : Y.length ≤ 15) (hv : V.length ≤ 15) (hr : ∀ r ∈ V, r.length ≤ 15) (k : Nat) (hk : 50 < k) : swashplatelaw01_sameTable.f k X Y V X Y V = some true := by
  obtain ⟨k, rfl⟩ : ∃ m, k = m + 1 := ⟨k - 1, by omega⟩
  unfold swashplatelaw01_sameTable.f
  rw [sints_total X (by omega) _ (by omega), Option.bind_some, if_pos rfl, sints_total Y (by omega) _ (by omega), Option.bind_some, if_pos rfl]
  simp only [swashplatelaw01_sameTable.j0]
  rw [if_neg (by simp)]
  exact stable_loop X Y V hv hr k 0 (Nat.zero_le _) (by omega)
theorem values_true (X Y : List Int) (V : List (List Int)) (x y n m : Int) : swashplatelaw01_SpansValues.f 1000 X Y V x y n m = some true := by
  have hj : ∀ b, swashplatelaw01_SpansValues.j0 1000 b X Y V n m X Y V = swashplatelaw01_SpansValues.j0 (999 + 1) b X Y V n m X Y V := fun _ => rfl
  have hj1 : ∀ b, swashplatelaw01_SpansValues.j1 999 b X Y V n m X Y V = swashplatelaw01_SpansValues.j1 (998 + 1) b X Y V n m X Y V := fun _ => rfl
  unfold swashplatelaw01_SpansValues.f
  rw [far_total X Y V 1000 (by omega), Option.bind_some]
  cases hf : farB X Y V with
  | true => rw [if_pos rfl, works_at 1000 (by omega)]; rfl
  | false =>
    obtain ⟨hx, hy, hv, hr⟩ := far_false hf
    rw [if_neg (by simp), copy_total X Y V hx hy hv hr 1000 (by omega), Option.bind_some]
    dsimp only
    rw [at_total X Y V x y 1000 (by omega), Option.bind_some, rat_total X Y V hx hy hv hr x y 1000 (by omega), Option.bind_some, if_neg (by simp), if_pos rfl, stable_total X Y V hx hy hv hr 1000 (by omega), Option.bind_some, hj]
    simp only [swashplatelaw01_SpansValues.j0]
    rw [if_neg (by simp), rtable_total X Y V hx hy hv hr 999 (by omega), Option.bind_some]
    have hj1t : swashplatelaw01_SpansValues.j1 999 true X Y V n m X Y V = some true := by
      rw [hj1]; simp only [swashplatelaw01_SpansValues.j1]; rw [if_pos trivial, works_at 998 (by omega)]; rfl
    cases ht : tableB X Y V with
    | false => rw [if_neg (by decide)]; exact hj1t
    | true =>
      have t := tb_of ht
      have hlen := t.len
      have ex : wrap64 ((X.length : Int) - 1) = (X.length : Int) - 1 := wr64 (by omega) (by omega)
      have ey : wrap64 ((Y.length : Int) - 1) = (Y.length : Int) - 1 := wr64 (by omega) (by omega)
      rw [if_pos (by rfl), ex, ey, from_total, Option.bind_some]
      by_cases h1 : 0 ≤ n ∧ n ≤ (X.length : Int) - 1
      · rw [if_pos (by simp; omega), from_total, Option.bind_some]
        by_cases h2 : 0 ≤ m ∧ m ≤ (Y.length : Int) - 1
        · obtain ⟨i, rfl⟩ : ∃ i : Nat, n = i := ⟨n.toNat, by omega⟩
          obtain ⟨j, rfl⟩ : ∃ j : Nat, m = j := ⟨m.toNat, by omega⟩
          have hi : i < X.length := by omega
          have hj' : j < Y.length := by omega
          have hrow := t.row i hi
          rw [show (!(decide ((0 : Int) ≤ j) && decide ((j : Int) ≤ (Y.length : Int) - 1))) = false by simp; omega, hj1]
          simp only [swashplatelaw01_SpansValues.j1]
          rw [if_neg (by simp), if_pos (by omega), if_pos (by omega), if_pos (by omega), rdL3_nat, if_pos (by omega), if_pos (by omega), if_pos (by omega), rd_nat, rd_nat, rd_nat, at_total X Y V _ _ 998 (by omega), at_knot ht hi hj', Option.bind_some]
          dsimp only
          rw [if_pos rfl, works_at 998 (by omega)]
          rw [if_pos (by simp [gV, gI])]
          rfl
        · rw [show (!(decide ((0 : Int) ≤ m) && decide (m ≤ (Y.length : Int) - 1))) = true by simp; omega]
          exact hj1t
      · rw [if_neg (by simp; omega)]
        exact hj1t
end Go.Proofs.Yteodlmgmmpkpoaa.PS
end
section
namespace Go.Proofs.Yteodlmgmmpkpoaa.PS
open Go.RowKit Go.Deep Go.ChangeShapes Go.WideShapes Go.ChangeAt Go.Proofs.YteodlmgmmpkpoaaW.PrintWords
set_option linter.unusedVariables false
set_option maxRecDepth 100000 in
theorem liftedValues (os : Os) (started : os.Started) (H : Type) (enc : TypeId × Value → H) :
    ReturnsInHanded {} Try.checked os 6 .any (Rows.spansValuesSpec.pre6 enc Try.prog Try.f6 Rows.spansValuesRow.domain false) (Rows.spansValuesSpec.post enc Try.prog Try.f6 false true false false) := by
  refine returnsInHanded_of_change (C := Try.checked) ownNone started (by kernel_rfl) Try.func6
    (ChangeSpec.witness6 (enc := enc) (C := Try.checked) false ⟨#[], #[.agg #[.slice none 0 0, .slice none 0 0, .slice none 0 0], .agg #[.int .i64 0, .int .i64 0], .agg #[.int .i64 0, .int .i64 0]], []⟩ 8 (by kernel_rfl) (by kernel_rfl) (by kernel_rfl) (by kernel_rfl)) ?_
  intro W base args ds gs before hval0 hW hcnd _
  have hval : ∀ (j : Nat) t v, Try.f6.params[j]? = some t → args[j]? = some v → Value.okWide Try.prog W .any base t v := hval0
  have hW' := hW
  obtain ⟨p, q, hA0, hV, rfl, hfz, hnd⟩ := hW
  have hA : DataW.TrodAll enc Try.prog W 0 (fun _ => true) true Try.f6.params.toList args.toList ds p := hA0
  rw [Try.params6] at hA hval
  obtain ⟨v0, vs0, d0, ds0, p0, q0, hargs, rfl, rfl, h0, r0⟩ := trodAll_cons hA
  obtain ⟨v1, vs1, d1, ds1, p1, q1, rfl, rfl, rfl, h1, r1⟩ := trodAll_cons r0
  obtain ⟨v2, vs2, d2, ds2, p2, q2, rfl, rfl, rfl, h2, r2⟩ := trodAll_cons r1
  obtain ⟨rfl, rfl, rfl⟩ := trodAll_nil r2
  obtain rfl : args = #[v0, v1, v2] := by cases args; simp_all
  obtain ⟨rfl, rfl⟩ := trodVars_none hV
  have k0 := h0
  have lt0 : ∀ x ∈ p0, x.block < W.heap.size := by obtain ⟨m, hm⟩ := k0; exact DataW.trod_lt m _ _ _ hm
  have k1 := h1
  have lt1 : ∀ x ∈ p1, x.block < W.heap.size := by obtain ⟨m, hm⟩ := k1; exact DataW.trod_lt m _ _ _ hm
  have k2 := h2
  have lt2 : ∀ x ∈ p2, x.block < W.heap.size := by obtain ⟨m, hm⟩ := k2; exact DataW.trod_lt m _ _ _ hm
  obtain ⟨A00, c00, X0, A01, c01, Y0, A02, c02, V0, rfl, t01, t02, t03, t04, t05, t06, _, _, _⟩ := arg25 (hval 0 25 v0 rfl rfl) h0
  obtain ⟨x10, x11, rfl⟩ := arg50 (hval 1 50 v1 rfl rfl) h1
  obtain ⟨x20, x21, rfl, _, _⟩ := arg28 (hval 2 28 v2 rfl rfl) h2
  clear hA0 hval0
  refine (swashplatelaw01_SpansValues.calls 1000 A00 c00 X0 A01 c01 Y0 A02 c02 V0 x10 x11 x20 x21 true W t02 t01 t04 t03 t06 t05 (values_true X0 Y0 V0 x10 x11 x20 x21) ⟨rfl⟩).mono fun e W' ⟨he, bel⟩ => ?_
  subst he
  exact ⟨_, rfl, _, _, _, [], _, [], hW', trodAll_mk1 (shut_bool Try.underlying4 _), (trodAll_cons_mk (Below.trod laidOut (by kernel_rfl) (of_decide_eq_true (by kernel_rfl)) k0 bel lt0) (trodAll_cons_mk (Below.trod laidOut (by kernel_rfl) (of_decide_eq_true (by kernel_rfl)) k1 bel lt1) (trodAll_cons_mk (Below.trod laidOut (by kernel_rfl) (of_decide_eq_true (by kernel_rfl)) k2 bel lt2) trodAll_mk0))), rfl, bel.frame _, fun h => by cases h⟩
theorem factsValues : joinedFacts Try.prog 6 Try.f6 Rows.spansValuesSpec Rows.spansValuesRow = true := by
  have fk : (Rows.spansValuesRow.plainKeys == Try.prog.plainKeys) = true := factKeys
  have fl : (Rows.spansValuesRow.lifted == Try.prog.liftsFinal) = true := factLifted
  have fm : (Try.prog.make == some Rows.spansValuesRow.make) = true := factMake
  unfold joinedFacts
  repeat' (with_reducible refine Bool.and_eq_true_iff.2 ⟨?_, ?_⟩)
  all_goals first | (with_reducible exact fk) | (with_reducible exact factHeard) | (with_reducible exact factEnter) | (with_reducible exact fl) | (with_reducible exact fm) | kernel_rfl
theorem overValues : Rows.spansValuesRow.holds Try.pinned (OpenSpec.ofChange Rows.spansValuesSpec) :=
  OpenClaim.holds_of_wide 6 Try.f6 rfl rfl rfl rfl rfl rfl rfl ⟨rfl, rfl, rfl, rfl, rfl⟩ rfl rfl rfl rfl rfl (by kernel_rfl) Try.func6 factsValues
    (of_decide_eq_true (by kernel_rfl)) (by unfold Func.isWrapper; first | (rw [if_pos (by decide +kernel)]; kernel_rfl) | (rw [if_neg (by decide +kernel)]; exact ⟨rfl, rfl⟩))
    (fun os started H enc _ => liftedValues os started H enc)
theorem valuesProved : Rows.SpansValuesSaid := overValues
#print axioms valuesProved
end Go.Proofs.Yteodlmgmmpkpoaa.PS
end
