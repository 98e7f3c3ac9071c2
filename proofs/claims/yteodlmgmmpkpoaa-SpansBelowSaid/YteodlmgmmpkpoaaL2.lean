-- Printed by a program of this session out of the translation (hybrid print) and out of hand proofs. Not trusted: Lean checks it.
import Derived.Below
import Derived.Deep.Draws
import Derived.Deep.AppendLies
import Derived.Maps.AppendAt
import Derived.OwnWalk
import Derived.Laws.BytesArg
import Derived.Laws.MakeOwn
import Derived.Laws.OwnMore
import Derived.Deep.OwnRows
import Derived.Tactics
import Derived.Lib.ConvBytes
import Derived.Laws.Slices
import Derived.WalkKit
import Derived.KernelRfl
import Derived.RowKit3
import Derived.Deep.LoopGhost
import Derived.Deep.QuietTactic
import Derived.BigQuiet
import Derived.WideLaws
import Derived.Deep.DeepCutAuto
import Derived.Deep.CutBlock
import Derived.Deep.RegionHeld3
import Derived.Laws.Rows
import Derived.Lib.AppendStr
import Derived.ArgAppend
import Derived.Laws.IdiomCopy
import Derived.RowKit
import Derived.Test.YteodlmgmmpkpoaaL1
section
namespace Go.Proofs.Yteodlmgmmpkpoaa.PS
open Go.RowKit Go.Proofs.YteodlmgmmpkpoaaW.PrintWords Go.Proofs.YteodlmgmmpkpoaaW.PrintLast Go.Proofs.YteodlmgmmpkpoaaW.PrintMore
attribute [local go_sem] max2_int min2_int max_two min_two max_three min_three max_four min_four   -- for this text's walks alone
set_option linter.unusedVariables false
set_option linter.unusedSimpArgs false
def swashplatelaw01_SpansBelow.j0 : Nat → Int → Bool → Int → Bool → List Int → List Int → List (List Int) → Int → Int → Int → Int → Option (Bool)
 | 0, _, _, _, _, _, _, _, _, _, _, _ => none
 | k + 1, x2, x9, x10, x62, x551000, x551001, x551002, x552000, x552001, x552002, x552003 => if x62 = true then (some false) else ((swashplateref01_Copy.f k x551000 x551001 x551002).bind fun bt571 => ((spans_Bound.f bt571.1 bt571.2.1 bt571.2.2 x552000 x552001 x552002 x552003).bind fun bt580 => (if bt580.2.2 = x10 then (if x10 = 0 then (if (x9 == (decide (bt580.2.1 ≤ x2))) = true then ((swashplatelaw01_works.f k).bind fun t584 => (some t584)) else (some false)) else ((swashplatelaw01_works.f k).bind fun t585 => (some t585))) else (some false))))
def swashplatelaw01_SpansBelow.f (k : Nat) (l0_0 : List Int) (l0_1 : List Int) (l0_2 : List (List Int)) (a1_0 : Int) (a1_1 : Int) (a1_2 : Int) (a1_3 : Int) (a2 : Int) : Option (Bool) := (swashplatelaw01_Far.f k l0_0 l0_1 l0_2).bind fun t552 => (if t552 = true then ((swashplatelaw01_works.f k).bind fun t553 => (some t553)) else ((swashplateref01_Copy.f k l0_0 l0_1 l0_2).bind fun bt554 => ((spans_Below.f bt554.1 bt554.2.1 bt554.2.2 a1_0 a1_1 a1_2 a1_3 a2).bind fun bt563 => ((swashplateref01_Below.f k l0_0 l0_1 l0_2 a1_0 a1_1 a1_2 a1_3 a2).bind fun bt567 => (if bt563.1 = bt567.1 then (if bt563.2.1 = bt567.2.1 then (if (bt563.2.2.1 != bt567.2.2.1) = true then (swashplatelaw01_SpansBelow.j0 k a2 bt563.2.2.1 bt563.2.2.2 true l0_0 l0_1 l0_2 a1_0 a1_1 a1_2 a1_3) else (swashplatelaw01_SpansBelow.j0 k a2 bt563.2.2.1 bt563.2.2.2 (bt563.2.2.2 != bt567.2.2.2) l0_0 l0_1 l0_2 a1_0 a1_1 a1_2 a1_3)) else (swashplatelaw01_SpansBelow.j0 k a2 bt563.2.2.1 bt563.2.2.2 true l0_0 l0_1 l0_2 a1_0 a1_1 a1_2 a1_3)) else (swashplatelaw01_SpansBelow.j0 k a2 bt563.2.2.1 bt563.2.2.2 true l0_0 l0_1 l0_2 a1_0 a1_1 a1_2 a1_3))))))
def swashplatelaw01_SpansBelow.T3 : Bool × List (List Nat × List Nat) := (true, [([], []), ([0], [0]), ([], []), ([2], [2]), ([], []), ([4], [4]), ([], []), ([1, 3, 5, 6, 1], [1, 3, 5, 6]), ([7], [7]), ([8], [8]), ([8], [8]), ([8], [8]), ([8], [8]), ([9, 7, 0, 1, 2, 3, 4, 5, 6, 7, 8, 9], [9]), ([10, 13, 0, 1, 2, 3, 4, 5, 6, 7, 8, 9, 10, 13], [10]), ([11, 14, 0, 1, 2, 3, 4, 5, 6, 7, 8, 9, 10, 11, 13, 14], [11]), ([12, 15, 0, 1, 2, 3, 4, 5, 6, 7, 8, 9, 10, 11, 12, 13, 14, 15], [12])])
def swashplatelaw01_SpansBelow.B3 : List Nat := [0, 1, 0, 4, 0, 16, 0, 127, 255, 511, 511, 511, 511, 1023, 10239, 28671, 65535]
theorem swashplatelaw01_SpansBelow.tab3 : rtab .any (opsOf Try.f8 3) = swashplatelaw01_SpansBelow.T3 := by kernel_rfl
theorem swashplatelaw01_SpansBelow.bits3 : waitsOk swashplatelaw01_SpansBelow.T3.2 swashplatelaw01_SpansBelow.B3 = true := by kernel_rfl
def swashplatelaw01_SpansBelow.T7 : Bool × List (List Nat × List Nat) := (true, [([], []), ([0], [0]), ([], []), ([2], [2]), ([], []), ([4], [4]), ([1, 3, 5, 1], [1, 3, 5]), ([6], [6]), ([7], [7]), ([7], [7]), ([], []), ([10, 8, 6, 0, 1, 2, 3, 4, 5, 6, 7, 8, 10], [8, 10]), ([9, 11, 0, 1, 2, 3, 4, 5, 6, 7, 8, 9, 10, 11], [9])])
def swashplatelaw01_SpansBelow.B7 : List Nat := [0, 1, 0, 4, 0, 16, 63, 127, 255, 255, 0, 1535, 4095]
theorem swashplatelaw01_SpansBelow.tab7 : rtab .any (opsOf Try.f8 7) = swashplatelaw01_SpansBelow.T7 := by kernel_rfl
theorem swashplatelaw01_SpansBelow.bits7 : waitsOk swashplatelaw01_SpansBelow.T7.2 swashplatelaw01_SpansBelow.B7 = true := by kernel_rfl
set_option maxHeartbeats 8000000 in
set_option maxRecDepth 100000 in
theorem swashplatelaw01_SpansBelow.calls (k : Nat) (A0_0 : Option Addr) (c0_0 : Nat) (l0_0 : List Int) (A0_1 : Option Addr) (c0_1 : Nat) (l0_1 : List Int) (A0_2 : Option Addr) (c0_2 : Nat) (l0_2 : List (List Int)) (a1_0 : Int) (a1_1 : Int) (a1_2 : Int) (a1_3 : Int) (a2 : Int) (r : Bool) (w : World) (hr0_0 : Kd.C (Kd.int .i64) w A0_0 l0_0.length l0_0) (hc0_0 : l0_0.length ≤ c0_0) (hr0_1 : Kd.C (Kd.int .i64) w A0_1 l0_1.length l0_1) (hc0_1 : l0_1.length ≤ c0_1) (hr0_2 : Kd.C (Kd.slice 3 (Kd.int .i64)) w A0_2 l0_2.length l0_2) (hc0_2 : l0_2.length ≤ c0_2) (h : swashplatelaw01_SpansBelow.f k l0_0 l0_1 l0_2 a1_0 a1_1 a1_2 a1_3 a2 = some r) (hrT : Aside0 (r = true)) :
  Calls Try.prog 8 #[.agg #[.slice A0_0 l0_0.length c0_0, .slice A0_1 l0_1.length c0_1, .slice A0_2 l0_2.length c0_2], .agg #[.int .i64 a1_0, .int .i64 a1_1, .int .i64 a1_2, .int .i64 a1_3], .int .i64 a2] w fun e w' => e = .returned (.bool r) ∧ Below w.heap.size w w' := by
 have hu25 := Try.underlying25
 have hu43 := Try.underlying43
 have hu27 := Try.underlying27
 have HR0_0 := Aside0.mk hr0_0
 have HC0_0 := Aside0.mk hc0_0
 clear hr0_0 hc0_0
 have HR0_1 := Aside0.mk hr0_1
 have HC0_1 := Aside0.mk hc0_1
 clear hr0_1 hc0_1
 have HR0_2 := Aside0.mk hr0_2
 have HC0_2 := Aside0.mk hc0_2
 clear hr0_2 hc0_2
 have HB := Aside0.mk (Below.refl w.heap.size w)
 have H : ((swashplatelaw01_Far.f k l0_0 l0_1 l0_2).bind fun t552 => (if t552 = true then ((swashplatelaw01_works.f k).bind fun t553 => (some t553)) else ((swashplateref01_Copy.f k l0_0 l0_1 l0_2).bind fun bt554 => ((spans_Below.f bt554.1 bt554.2.1 bt554.2.2 a1_0 a1_1 a1_2 a1_3 a2).bind fun bt563 => ((swashplateref01_Below.f k l0_0 l0_1 l0_2 a1_0 a1_1 a1_2 a1_3 a2).bind fun bt567 => (if bt563.1 = bt567.1 then (if bt563.2.1 = bt567.2.1 then (if (bt563.2.2.1 != bt567.2.2.1) = true then (swashplatelaw01_SpansBelow.j0 k a2 bt563.2.2.1 bt563.2.2.2 true l0_0 l0_1 l0_2 a1_0 a1_1 a1_2 a1_3) else (swashplatelaw01_SpansBelow.j0 k a2 bt563.2.2.1 bt563.2.2.2 (bt563.2.2.2 != bt567.2.2.2) l0_0 l0_1 l0_2 a1_0 a1_1 a1_2 a1_3)) else (swashplatelaw01_SpansBelow.j0 k a2 bt563.2.2.1 bt563.2.2.2 true l0_0 l0_1 l0_2 a1_0 a1_1 a1_2 a1_3)) else (swashplatelaw01_SpansBelow.j0 k a2 bt563.2.2.1 bt563.2.2.2 true l0_0 l0_1 l0_2 a1_0 a1_1 a1_2 a1_3))))))) = some r := h
 clear h
 replace H := Option.bind_eq_some_iff.mp H
 obtain ⟨t552, A40, H⟩ := H
 replace H : (if t552 = true then ((swashplatelaw01_works.f k).bind fun t553 => (some t553)) else ((swashplateref01_Copy.f k l0_0 l0_1 l0_2).bind fun bt554 => ((spans_Below.f bt554.1 bt554.2.1 bt554.2.2 a1_0 a1_1 a1_2 a1_3 a2).bind fun bt563 => ((swashplateref01_Below.f k l0_0 l0_1 l0_2 a1_0 a1_1 a1_2 a1_3 a2).bind fun bt567 => (if bt563.1 = bt567.1 then (if bt563.2.1 = bt567.2.1 then (if (bt563.2.2.1 != bt567.2.2.1) = true then (swashplatelaw01_SpansBelow.j0 k a2 bt563.2.2.1 bt563.2.2.2 true l0_0 l0_1 l0_2 a1_0 a1_1 a1_2 a1_3) else (swashplatelaw01_SpansBelow.j0 k a2 bt563.2.2.1 bt563.2.2.2 (bt563.2.2.2 != bt567.2.2.2) l0_0 l0_1 l0_2 a1_0 a1_1 a1_2 a1_3)) else (swashplatelaw01_SpansBelow.j0 k a2 bt563.2.2.1 bt563.2.2.2 true l0_0 l0_1 l0_2 a1_0 a1_1 a1_2 a1_3)) else (swashplatelaw01_SpansBelow.j0 k a2 bt563.2.2.1 bt563.2.2.2 true l0_0 l0_1 l0_2 a1_0 a1_1 a1_2 a1_3)))))) = some r := H
 have A4 := Aside0.mk A40
 clear A40
 by_cases c5 : t552 = true
 ·
  subst c5
  have H1 : ((swashplatelaw01_works.f k).bind fun t553 => (some t553)) = some r := by rw [if_pos rfl] at H; exact H
  clear H
  have H := H1
  clear H1
  replace H := Option.bind_eq_some_iff.mp H
  obtain ⟨t553, A60, H⟩ := H
  replace H : (some t553) = some r := H
  have A6 := Aside0.mk A60
  clear A60
  obtain rfl := Option.some.inj H
  go_enter Try.func8, Try.ntmps8
  go_wp2_with (first | ((with_reducible refine gate_dst (N := 3) rfl ?_); refine box_event ?hg (N := 3) ?hd (cs := #[.slice A0_0 l0_0.length c0_0, .slice A0_1 l0_1.length c0_1, .slice A0_2 l0_2.length c0_2]) (t := 25) ?hr ?_; (case hd => rfl); (case hg => rfl); (case hr => first | (go_simp; done) | (go_simp; rfl)); intro gb550 hg w7 hbox hb; have n0_ := Aside0.mk (below_step (bl_ HB.out) hb); have n1_ := Aside0.mk (hbox); have n2_ := Aside0.mk (szl_ hg HB.out); have n3_ := Aside0.mk (szl_ hg HB.out); clear HB; have HB := n0_; have BK550 := n1_; have GW550 := n2_; have GE550 := n3_; clear n0_ n1_ n2_ n3_ hb hbox hg) | ((with_reducible refine gate_dst (N := 4) rfl ?_); refine box_event ?hg (N := 4) ?hd (cs := #[.int .i64 a1_0, .int .i64 a1_1, .int .i64 a1_2, .int .i64 a1_3]) (t := 43) ?hr ?_; (case hd => rfl); (case hg => rfl); (case hr => first | (go_simp; done) | (go_simp; rfl)); intro gb551 hg w8 hbox hb; have n0_ := Aside0.mk (blk_below (bk_ BK550.out) hb); have n1_ := Aside0.mk (below_step (bl_ HB.out) hb); have n2_ := Aside0.mk (hbox); have n3_ := Aside0.mk (szl_ hg HB.out); have n4_ := Aside0.mk (szl_ hg HB.out); have n5_ := Aside0.mk (nel_ hg BK550.out); have n6_ := Aside0.mk (ner_ hg BK550.out); clear BK550 HB; have BK550 := n0_; have HB := n1_; have BK551 := n2_; have GW551 := n3_; have GE551 := n4_; have NB550_551 := n5_; have NB551_550 := n6_; clear n0_ n1_ n2_ n3_ n4_ n5_ n6_ hb hbox hg; have hnb9 := NB550_551.out; have hnc9 := NB551_550.out; have hcz10_0 : w8.cell? ⟨gb550, 0, none⟩ = some (.slice A0_0 l0_0.length c0_0) := (blk_cell BK550.out 0).trans rfl; have hcz10_1 : w8.cell? ⟨gb550, 1, none⟩ = some (.slice A0_1 l0_1.length c0_1) := (blk_cell BK550.out 1).trans rfl; have hcz10_2 : w8.cell? ⟨gb550, 2, none⟩ = some (.slice A0_2 l0_2.length c0_2) := (blk_cell BK550.out 2).trans rfl; have hfz10_0 := blk_frozen BK550.out 0; have hfz10_1 := blk_frozen BK550.out 1; have hfz10_2 := blk_frozen BK550.out 2) | ((with_reducible refine gate_callee (f := 20) rfl ?_); refine goesL_ (some 18) rfl rfl Try.func20 (by kernel_rfl) rfl #[.agg #[.slice A0_0 l0_0.length c0_0, .slice A0_1 l0_1.length c0_1, .slice A0_2 l0_2.length c0_2]] rfl (by (try simp only [List.map_toArray, List.map_cons, List.map_nil]); first | done | rfl | (simp only [List.length_drop, List.length_take]; rfl)) ?_; (with_reducible refine (swashplatelaw01_Far.calls k _ _ l0_0 _ _ l0_1 _ _ l0_2 true _ ?side1 ?side2 ?side3 ?side4 ?side5 ?side6 A4.out).mono ?_); (case side1 => exact cr_ (Kd.C_below HR0_0.out HB.out)); (case side2 => exact HC0_0.out); (case side3 => exact cr_ (Kd.C_below HR0_1.out HB.out)); (case side4 => exact HC0_1.out); (case side5 => exact cr_ (Kd.C_below HR0_2.out HB.out)); (case side6 => exact HC0_2.out); rintro e w11 ⟨rfl, hb⟩; refine ⟨_, rfl, ?_⟩; have n0_ := Aside0.mk (blk_below (bk_ BK550.out) hb); have n1_ := Aside0.mk (blk_below (bk_ BK551.out) hb); have n2_ := Aside0.mk (below_step (bl_ HB.out) hb); clear BK550 BK551 HB; have BK550 := n0_; have BK551 := n1_; have HB := n2_; clear n0_ n1_ n2_; (try clear hb); (try clear hb2); (try clear hk); (try clear hi)) | ((with_reducible refine gate_callee (f := 22) rfl ?_); refine goesL_ (some 19) rfl rfl Try.func22 (by kernel_rfl) rfl #[] rfl (by (try simp only [List.map_toArray, List.map_cons, List.map_nil]); first | done | rfl | (simp only [List.length_drop, List.length_take]; rfl)) ?_; (with_reducible refine (swashplatelaw01_works.calls k  t553 _ A6.out).mono ?_); rintro e w12 ⟨rfl, hb⟩; refine ⟨_, rfl, ?_⟩; have n0_ := Aside0.mk (blk_below (bk_ BK550.out) hb); have n1_ := Aside0.mk (blk_below (bk_ BK551.out) hb); have n2_ := Aside0.mk (below_step (bl_ HB.out) hb); clear BK550 BK551 HB; have BK550 := n0_; have BK551 := n1_; have HB := n2_; clear n0_ n1_ n2_; (try clear hb); (try clear hb2); (try clear hk); (try clear hi)))
  go_ret
  exact ⟨by first | rfl | (simp [errW_none, errW_some] <;> rfl) | (simp [*, errW_none, errW_some] <;> rfl), bl_ HB.out⟩
 ·
  replace c5 := Bool.eq_false_iff.mpr c5
  subst c5
  have H1 : ((swashplateref01_Copy.f k l0_0 l0_1 l0_2).bind fun bt554 => ((spans_Below.f bt554.1 bt554.2.1 bt554.2.2 a1_0 a1_1 a1_2 a1_3 a2).bind fun bt563 => ((swashplateref01_Below.f k l0_0 l0_1 l0_2 a1_0 a1_1 a1_2 a1_3 a2).bind fun bt567 => (if bt563.1 = bt567.1 then (if bt563.2.1 = bt567.2.1 then (if (bt563.2.2.1 != bt567.2.2.1) = true then (swashplatelaw01_SpansBelow.j0 k a2 bt563.2.2.1 bt563.2.2.2 true l0_0 l0_1 l0_2 a1_0 a1_1 a1_2 a1_3) else (swashplatelaw01_SpansBelow.j0 k a2 bt563.2.2.1 bt563.2.2.2 (bt563.2.2.2 != bt567.2.2.2) l0_0 l0_1 l0_2 a1_0 a1_1 a1_2 a1_3)) else (swashplatelaw01_SpansBelow.j0 k a2 bt563.2.2.1 bt563.2.2.2 true l0_0 l0_1 l0_2 a1_0 a1_1 a1_2 a1_3)) else (swashplatelaw01_SpansBelow.j0 k a2 bt563.2.2.1 bt563.2.2.2 true l0_0 l0_1 l0_2 a1_0 a1_1 a1_2 a1_3))))) = some r := by rw [if_neg (show ¬ (false = true) by decide)] at H; exact H
  clear H
  have H := H1
  clear H1
  replace H := Option.bind_eq_some_iff.mp H
  obtain ⟨⟨t554, t557, t560⟩, A130, H⟩ := H
  replace H : ((spans_Below.f t554 t557 t560 a1_0 a1_1 a1_2 a1_3 a2).bind fun bt563 => ((swashplateref01_Below.f k l0_0 l0_1 l0_2 a1_0 a1_1 a1_2 a1_3 a2).bind fun bt567 => (if bt563.1 = bt567.1 then (if bt563.2.1 = bt567.2.1 then (if (bt563.2.2.1 != bt567.2.2.1) = true then (swashplatelaw01_SpansBelow.j0 k a2 bt563.2.2.1 bt563.2.2.2 true l0_0 l0_1 l0_2 a1_0 a1_1 a1_2 a1_3) else (swashplatelaw01_SpansBelow.j0 k a2 bt563.2.2.1 bt563.2.2.2 (bt563.2.2.2 != bt567.2.2.2) l0_0 l0_1 l0_2 a1_0 a1_1 a1_2 a1_3)) else (swashplatelaw01_SpansBelow.j0 k a2 bt563.2.2.1 bt563.2.2.2 true l0_0 l0_1 l0_2 a1_0 a1_1 a1_2 a1_3)) else (swashplatelaw01_SpansBelow.j0 k a2 bt563.2.2.1 bt563.2.2.2 true l0_0 l0_1 l0_2 a1_0 a1_1 a1_2 a1_3)))) = some r := H
  have A13 := Aside0.mk A130
  clear A130
  replace H := Option.bind_eq_some_iff.mp H
  obtain ⟨⟨t563, t564, t565, t566⟩, A140, H⟩ := H
  replace H : ((swashplateref01_Below.f k l0_0 l0_1 l0_2 a1_0 a1_1 a1_2 a1_3 a2).bind fun bt567 => (if t563 = bt567.1 then (if t564 = bt567.2.1 then (if (t565 != bt567.2.2.1) = true then (swashplatelaw01_SpansBelow.j0 k a2 t565 t566 true l0_0 l0_1 l0_2 a1_0 a1_1 a1_2 a1_3) else (swashplatelaw01_SpansBelow.j0 k a2 t565 t566 (t566 != bt567.2.2.2) l0_0 l0_1 l0_2 a1_0 a1_1 a1_2 a1_3)) else (swashplatelaw01_SpansBelow.j0 k a2 t565 t566 true l0_0 l0_1 l0_2 a1_0 a1_1 a1_2 a1_3)) else (swashplatelaw01_SpansBelow.j0 k a2 t565 t566 true l0_0 l0_1 l0_2 a1_0 a1_1 a1_2 a1_3))) = some r := H
  have A14 := Aside0.mk A140
  clear A140
  replace H := Option.bind_eq_some_iff.mp H
  obtain ⟨⟨t567, t568, t569, t570⟩, A150, H⟩ := H
  replace H : (if t563 = t567 then (if t564 = t568 then (if (t565 != t569) = true then (swashplatelaw01_SpansBelow.j0 k a2 t565 t566 true l0_0 l0_1 l0_2 a1_0 a1_1 a1_2 a1_3) else (swashplatelaw01_SpansBelow.j0 k a2 t565 t566 (t566 != t570) l0_0 l0_1 l0_2 a1_0 a1_1 a1_2 a1_3)) else (swashplatelaw01_SpansBelow.j0 k a2 t565 t566 true l0_0 l0_1 l0_2 a1_0 a1_1 a1_2 a1_3)) else (swashplatelaw01_SpansBelow.j0 k a2 t565 t566 true l0_0 l0_1 l0_2 a1_0 a1_1 a1_2 a1_3)) = some r := H
  have A15 := Aside0.mk A150
  clear A150
  have HC16 := Aside0.mk H
  clear H
  go_enter Try.func8, Try.ntmps8
  try go_wp2_with (first | ((with_reducible refine gate_dst (N := 3) rfl ?_); refine box_event ?hg (N := 3) ?hd (cs := #[.slice A0_0 l0_0.length c0_0, .slice A0_1 l0_1.length c0_1, .slice A0_2 l0_2.length c0_2]) (t := 25) ?hr ?_; (case hd => rfl); (case hg => rfl); (case hr => first | (go_simp; done) | (go_simp; rfl)); intro gb550 hg w17 hbox hb; have n0_ := Aside0.mk (below_step (bl_ HB.out) hb); have n1_ := Aside0.mk (hbox); have n2_ := Aside0.mk (szl_ hg HB.out); have n3_ := Aside0.mk (szl_ hg HB.out); clear HB; have HB := n0_; have BK550 := n1_; have GW550 := n2_; have GE550 := n3_; clear n0_ n1_ n2_ n3_ hb hbox hg) | ((with_reducible refine gate_dst (N := 4) rfl ?_); refine box_event ?hg (N := 4) ?hd (cs := #[.int .i64 a1_0, .int .i64 a1_1, .int .i64 a1_2, .int .i64 a1_3]) (t := 43) ?hr ?_; (case hd => rfl); (case hg => rfl); (case hr => first | (go_simp; done) | (go_simp; rfl)); intro gb551 hg w18 hbox hb; have n0_ := Aside0.mk (blk_below (bk_ BK550.out) hb); have n1_ := Aside0.mk (below_step (bl_ HB.out) hb); have n2_ := Aside0.mk (hbox); have n3_ := Aside0.mk (szl_ hg HB.out); have n4_ := Aside0.mk (szl_ hg HB.out); have n5_ := Aside0.mk (nel_ hg BK550.out); have n6_ := Aside0.mk (ner_ hg BK550.out); clear BK550 HB; have BK550 := n0_; have HB := n1_; have BK551 := n2_; have GW551 := n3_; have GE551 := n4_; have NB550_551 := n5_; have NB551_550 := n6_; clear n0_ n1_ n2_ n3_ n4_ n5_ n6_ hb hbox hg; have hnb19 := NB550_551.out; have hnc19 := NB551_550.out; have hcz20_0 : w18.cell? ⟨gb550, 0, none⟩ = some (.slice A0_0 l0_0.length c0_0) := (blk_cell BK550.out 0).trans rfl; have hcz20_1 : w18.cell? ⟨gb550, 1, none⟩ = some (.slice A0_1 l0_1.length c0_1) := (blk_cell BK550.out 1).trans rfl; have hcz20_2 : w18.cell? ⟨gb550, 2, none⟩ = some (.slice A0_2 l0_2.length c0_2) := (blk_cell BK550.out 2).trans rfl; have hfz20_0 := blk_frozen BK550.out 0; have hfz20_1 := blk_frozen BK550.out 1; have hfz20_2 := blk_frozen BK550.out 2) | ((with_reducible refine gate_callee (f := 20) rfl ?_); refine goesL_ (some 18) rfl rfl Try.func20 (by kernel_rfl) rfl #[.agg #[.slice A0_0 l0_0.length c0_0, .slice A0_1 l0_1.length c0_1, .slice A0_2 l0_2.length c0_2]] rfl (by (try simp only [List.map_toArray, List.map_cons, List.map_nil]); first | done | rfl | (simp only [List.length_drop, List.length_take]; rfl)) ?_; (with_reducible refine (swashplatelaw01_Far.calls k _ _ l0_0 _ _ l0_1 _ _ l0_2 false _ ?side1 ?side2 ?side3 ?side4 ?side5 ?side6 A4.out).mono ?_); (case side1 => exact cr_ (Kd.C_below HR0_0.out HB.out)); (case side2 => exact HC0_0.out); (case side3 => exact cr_ (Kd.C_below HR0_1.out HB.out)); (case side4 => exact HC0_1.out); (case side5 => exact cr_ (Kd.C_below HR0_2.out HB.out)); (case side6 => exact HC0_2.out); rintro e w21 ⟨rfl, hb⟩; refine ⟨_, rfl, ?_⟩; have n0_ := Aside0.mk (blk_below (bk_ BK550.out) hb); have n1_ := Aside0.mk (blk_below (bk_ BK551.out) hb); have n2_ := Aside0.mk (below_step (bl_ HB.out) hb); clear BK550 BK551 HB; have BK550 := n0_; have BK551 := n1_; have HB := n2_; clear n0_ n1_ n2_; (try clear hb); (try clear hb2); (try clear hk); (try clear hi)))
  have n0_ := Aside0.mk (blk_drew BK550.out)
  have n1_ := Aside0.mk (blk_drew BK551.out)
  have n2_ := Aside0.mk (below_drew1 HB.out)
  clear BK550 BK551 HB
  have BK550 := n0_
  have BK551 := n1_
  have HB := n2_
  clear n0_ n1_ n2_
  refine start_ (n := 17) (S := fun w' => w'.cell? ⟨gb550, 0, none⟩ = some (.slice A0_0 l0_0.length c0_0) ∧ w'.cell? ⟨gb550, 1, none⟩ = some (.slice A0_1 l0_1.length c0_1) ∧ w'.cell? ⟨gb550, 2, none⟩ = some (.slice A0_2 l0_2.length c0_2) ∧ w'.cell? ⟨gb551, 0, none⟩ = some (.int .i64 a1_0) ∧ w'.cell? ⟨gb551, 1, none⟩ = some (.int .i64 a1_1) ∧ w'.cell? ⟨gb551, 2, none⟩ = some (.int .i64 a1_2) ∧ w'.cell? ⟨gb551, 3, none⟩ = some (.int .i64 a1_3)) (ds := []) #[false, false, false, false, false, false, false, false, false, false, false, false, false, false, false, false, false] (by kernel_rfl) rfl rfl ⟨(blk_cell BK550.out 0).trans rfl, (blk_cell BK550.out 1).trans rfl, (blk_cell BK550.out 2).trans rfl, (blk_cell BK551.out 0).trans rfl, (blk_cell BK551.out 1).trans rfl, (blk_cell BK551.out 2).trans rfl, (blk_cell BK551.out 3).trans rfl⟩ (fun hHeld => ?_); refine with_tabW swashplatelaw01_SpansBelow.tab3 swashplatelaw01_SpansBelow.bits3 (fun HT_ HW_ => ?_)
  generalize w21.drew = w22 at BK550 BK551 HB hHeld ⊢
  refine pure_ (i := 2) (N := some 23) (v := ?_) (a' := ?_) #[false, false, true, false, false, false, false, false, false, false, false, false, false, false, false, false, false] rfl rfl (any_of HT_.out (by kernel_rfl)) (fun _ _ _ h => h) (Or.inl ⟨by rfl, ?_⟩) ?_ ?_
  rotate_left
  ·
   intro w'
   go_simp
   with_reducible rfl
  rotate_left
  ·
   simp only [Act.put, List.setIfInBounds_toArray, List.set_cons_zero, List.set_cons_succ, i64_w, i32_w]
   rfl
  refine pure_ (i := 4) (N := some 25) (v := ?_) (a' := ?_) #[false, false, true, false, true, false, false, false, false, false, false, false, false, false, false, false, false] rfl rfl (any_of HT_.out (by kernel_rfl)) (fun _ _ _ h => h) (Or.inl ⟨by rfl, ?_⟩) ?_ ?_
  rotate_left
  ·
   intro w'
   go_simp
   with_reducible rfl
  rotate_left
  ·
   simp only [Act.put, List.setIfInBounds_toArray, List.set_cons_zero, List.set_cons_succ, i64_w, i32_w]
   rfl
  refine pure_ (i := 6) (N := some 27) (v := ?_) (a' := ?_) #[false, false, true, false, true, false, true, false, false, false, false, false, false, false, false, false, false] rfl rfl (any_of HT_.out (by kernel_rfl)) (fun _ _ _ h => h) (Or.inl ⟨by rfl, ?_⟩) ?_ ?_
  rotate_left
  ·
   intro w'
   go_simp
   with_reducible rfl
  rotate_left
  ·
   simp only [Act.put, List.setIfInBounds_toArray, List.set_cons_zero, List.set_cons_succ, i64_w, i32_w]
   rfl
  refine take_ (i := 0) (N := some 21) (v := ?_) (a' := ?_) #[true, false, true, false, true, false, true, false, false, false, false, false, false, false, false, false, false] rfl rfl (take_ofW HT_.out HW_.out (by kernel_rfl)) (fun _ _ _ h => h) (Or.inl ⟨by rfl, ?_⟩) hHeld ?_ ?_
  rotate_left
  ·
   rintro w' ⟨s0, s1, s2, s3, s4, s5, s6⟩
   go_simp
   with_reducible rfl
  rotate_left
  ·
   simp only [Act.put, List.setIfInBounds_toArray, List.set_cons_zero, List.set_cons_succ, i64_w, i32_w]
   rfl
  refine take_ (i := 3) (N := some 24) (v := ?_) (a' := ?_) #[true, false, true, true, true, false, true, false, false, false, false, false, false, false, false, false, false] rfl rfl (take_ofW HT_.out HW_.out (by kernel_rfl)) (fun _ _ _ h => h) (Or.inl ⟨by rfl, ?_⟩) hHeld ?_ ?_
  rotate_left
  ·
   rintro w' ⟨s0, s1, s2, s3, s4, s5, s6⟩
   go_simp
   with_reducible rfl
  rotate_left
  ·
   simp only [Act.put, List.setIfInBounds_toArray, List.set_cons_zero, List.set_cons_succ, i64_w, i32_w]
   rfl
  refine take_ (i := 5) (N := some 26) (v := ?_) (a' := ?_) #[true, false, true, true, true, true, true, false, false, false, false, false, false, false, false, false, false] rfl rfl (take_ofW HT_.out HW_.out (by kernel_rfl)) (fun _ _ _ h => h) (Or.inl ⟨by rfl, ?_⟩) hHeld ?_ ?_
  rotate_left
  ·
   rintro w' ⟨s0, s1, s2, s3, s4, s5, s6⟩
   go_simp
   with_reducible rfl
  rotate_left
  ·
   simp only [Act.put, List.setIfInBounds_toArray, List.set_cons_zero, List.set_cons_succ, i64_w, i32_w]
   rfl
  refine one_ (i := 1) (N := some 22) #[true, true, true, true, true, true, true, false, false, false, false, false, false, false, false, false, false] rfl rfl (one_of HT_.out (by kernel_rfl)) (by decide) (fun K hK => ?_)
  refine goes_ Try.func24 (by kernel_rfl) rfl #[.agg #[.slice A0_0 l0_0.length c0_0, .slice A0_1 l0_1.length c0_1, .slice A0_2 l0_2.length c0_2]] (by rfl) rfl rfl (by (try simp only [List.map_toArray, List.map_cons, List.map_nil]); first | done | rfl | (simp only [List.length_drop, List.length_take]; rfl)) ?_
  with_reducible refine (swashplateref01_Copy.calls k _ _ l0_0 _ _ l0_1 _ _ l0_2 t554 t557 t560 _ ?side1 ?side2 ?side3 ?side4 ?side5 ?side6 A13.out).mono ?_
  (case side1 => exact cr_ (Kd.C_below HR0_0.out HB.out))
  (case side2 => exact HC0_0.out)
  (case side3 => exact cr_ (Kd.C_below HR0_1.out HB.out))
  (case side4 => exact HC0_1.out)
  (case side5 => exact cr_ (Kd.C_below HR0_2.out HB.out))
  (case side6 => exact HC0_2.out)
  rintro e w23 ⟨v555, v558, v561, rfl, ho0, ho1, ho2, hb⟩
  refine ⟨_, rfl, ?_⟩
  have n0_ := Aside0.mk (Kd.R_lower ho0 (below_size (bl_ HB.out)))
  have n1_ := Aside0.mk (Kd.R_lower ho1 (below_size (bl_ HB.out)))
  have n2_ := Aside0.mk (Kd.S_lower ho2 (below_size (bl_ HB.out)))
  have n3_ := Aside0.mk (blk_below (bk_ BK550.out) hb)
  have n4_ := Aside0.mk (blk_below (bk_ BK551.out) hb)
  have n5_ := Aside0.mk (below_step (bl_ HB.out) hb)
  clear BK550 BK551 HB
  have HO556 := n0_
  have HO559 := n1_
  have HO562 := n2_
  have BK550 := n3_
  have BK551 := n4_
  have HB := n5_
  clear n0_ n1_ n2_ n3_ n4_ n5_
  (try clear hb)
  (try clear hb2)
  (try clear hk)
  (try clear hi)
  (try clear ho0)
  (try clear ho1)
  (try clear ho2)
  obtain ⟨Ao24, co24, eo24⟩ := Kd.R_slice HO556.out
  (first | subst eo24 | (injection eo24 with f1_ f2_ f3_; have f4_ := f1_.symm; have f5_ := f3_.symm; clear f1_ f2_ f3_; subst f4_; subst f5_))
  obtain ⟨Ao25, co25, eo25⟩ := Kd.R_slice HO559.out
  (first | subst eo25 | (injection eo25 with f1_ f2_ f3_; have f4_ := f1_.symm; have f5_ := f3_.symm; clear f1_ f2_ f3_; subst f4_; subst f5_))
  obtain ⟨Ao26, co26, eo26⟩ := Kd.S_slice HO562.out
  (first | subst eo26 | (injection eo26 with f1_ f2_ f3_; have f4_ := f1_.symm; have f5_ := f3_.symm; clear f1_ f2_ f3_; subst f4_; subst f5_))
  refine hK.out _ _ ⟨(blk_cell BK550.out 0).trans rfl, (blk_cell BK550.out 1).trans rfl, (blk_cell BK550.out 2).trans rfl, (blk_cell BK551.out 0).trans rfl, (blk_cell BK551.out 1).trans rfl, (blk_cell BK551.out 2).trans rfl, (blk_cell BK551.out 3).trans rfl⟩ (fun hHeld => ?_)
  clear hK K
  refine norm_ (a' := ?_) ?_ ?_
  rotate_left
  ·
   show Act.put _ (some 22) _ = _
   simp only [Act.put, List.setIfInBounds_toArray, List.set_cons_zero, List.set_cons_succ, i64_w, i32_w]
   rfl
  refine one_ (i := 7) (N := some 28) #[true, true, true, true, true, true, true, true, false, false, false, false, false, false, false, false, false] rfl rfl (one_of HT_.out (by kernel_rfl)) (by decide) (fun K hK => ?_)
  refine goes_ Try.func46 (by kernel_rfl) rfl #[.agg #[.slice Ao24 t554.length co24, .slice Ao25 t557.length co25, .slice Ao26 t560.length co26], .agg #[.int .i64 a1_0, .int .i64 a1_1], .agg #[.int .i64 a1_2, .int .i64 a1_3], .int .i64 a2] (by rfl) rfl rfl (by (try simp only [List.map_toArray, List.map_cons, List.map_nil]); first | done | rfl | (simp only [List.length_drop, List.length_take]; rfl)) ?_
  with_reducible refine (spans_Below.calls _ _ t554 _ _ t557 _ _ t560 a1_0 a1_1 a1_2 a1_3 a2 t563 t564 t565 t566 _ ?side1 ?side2 ?side3 ?side4 ?side5 ?side6 A14.out).mono ?_
  (case side1 => exact cr_ (Kd.R_reads' HO556.out).2.2)
  (case side2 => exact (Kd.R_reads' HO556.out).2.1)
  (case side3 => exact cr_ (Kd.R_reads' HO559.out).2.2)
  (case side4 => exact (Kd.R_reads' HO559.out).2.1)
  (case side5 => exact cr_ (Kd.S_reads' HO562.out).2.2)
  (case side6 => exact (Kd.S_reads' HO562.out).2.1)
  rintro e w27 ⟨rfl, hb⟩
  refine ⟨_, rfl, ?_⟩
  have n0_ := Aside0.mk (Kd.R_below (by (with_reducible repeat (first | apply Kd.R_alloc | apply Kd.R_drewN | apply Kd.R_drew)); exact HO556.out) hb)
  have n1_ := Aside0.mk (Kd.R_below (by (with_reducible repeat (first | apply Kd.R_alloc | apply Kd.R_drewN | apply Kd.R_drew)); exact HO559.out) hb)
  have n2_ := Aside0.mk (Kd.S_below (by (with_reducible repeat (first | apply Kd.S_alloc | apply Kd.S_drewN | apply Kd.S_drew)); exact HO562.out) hb)
  have n3_ := Aside0.mk (blk_below (bk_ BK550.out) hb)
  have n4_ := Aside0.mk (blk_below (bk_ BK551.out) hb)
  have n5_ := Aside0.mk (below_step (bl_ HB.out) hb)
  clear HO556 HO559 HO562 BK550 BK551 HB
  have HO556 := n0_
  have HO559 := n1_
  have HO562 := n2_
  have BK550 := n3_
  have BK551 := n4_
  have HB := n5_
  clear n0_ n1_ n2_ n3_ n4_ n5_
  (try clear hb)
  (try clear hb2)
  (try clear hk)
  (try clear hi)
  refine hK.out _ _ ⟨(blk_cell BK550.out 0).trans rfl, (blk_cell BK550.out 1).trans rfl, (blk_cell BK550.out 2).trans rfl, (blk_cell BK551.out 0).trans rfl, (blk_cell BK551.out 1).trans rfl, (blk_cell BK551.out 2).trans rfl, (blk_cell BK551.out 3).trans rfl⟩ (fun hHeld => ?_)
  clear hK K
  refine norm_ (a' := ?_) ?_ ?_
  rotate_left
  ·
   show Act.put _ (some 28) _ = _
   simp only [Act.put, List.setIfInBounds_toArray, List.set_cons_zero, List.set_cons_succ, i64_w, i32_w]
   rfl
  refine pure_ (i := 8) (N := some 20) (v := ?_) (a' := ?_) #[true, true, true, true, true, true, true, true, true, false, false, false, false, false, false, false, false] rfl rfl (any_of HT_.out (by kernel_rfl)) (fun _ _ _ h => h) (Or.inl ⟨by rfl, ?_⟩) ?_ ?_
  rotate_left
  ·
   intro w'
   go_simp
   with_reducible rfl
  rotate_left
  ·
   simp only [Act.put, List.setIfInBounds_toArray, List.set_cons_zero, List.set_cons_succ, i64_w, i32_w]
   rfl
  refine pure_ (i := 9) (N := some 29) (v := ?_) (a' := ?_) #[true, true, true, true, true, true, true, true, true, true, false, false, false, false, false, false, false] rfl rfl (any_of HT_.out (by kernel_rfl)) (fun _ _ _ h => h) (Or.inl ⟨by rfl, ?_⟩) ?_ ?_
  rotate_left
  ·
   intro w'
   go_simp
   with_reducible rfl
  rotate_left
  ·
   simp only [Act.put, List.setIfInBounds_toArray, List.set_cons_zero, List.set_cons_succ, i64_w, i32_w]
   rfl
  refine pure_ (i := 10) (N := some 30) (v := ?_) (a' := ?_) #[true, true, true, true, true, true, true, true, true, true, true, false, false, false, false, false, false] rfl rfl (any_of HT_.out (by kernel_rfl)) (fun _ _ _ h => h) (Or.inl ⟨by rfl, ?_⟩) ?_ ?_
  rotate_left
  ·
   intro w'
   go_simp
   with_reducible rfl
  rotate_left
  ·
   simp only [Act.put, List.setIfInBounds_toArray, List.set_cons_zero, List.set_cons_succ, i64_w, i32_w]
   rfl
  refine pure_ (i := 11) (N := some 31) (v := ?_) (a' := ?_) #[true, true, true, true, true, true, true, true, true, true, true, true, false, false, false, false, false] rfl rfl (any_of HT_.out (by kernel_rfl)) (fun _ _ _ h => h) (Or.inl ⟨by rfl, ?_⟩) ?_ ?_
  rotate_left
  ·
   intro w'
   go_simp
   with_reducible rfl
  rotate_left
  ·
   simp only [Act.put, List.setIfInBounds_toArray, List.set_cons_zero, List.set_cons_succ, i64_w, i32_w]
   rfl
  refine pure_ (i := 12) (N := some 32) (v := ?_) (a' := ?_) #[true, true, true, true, true, true, true, true, true, true, true, true, true, false, false, false, false] rfl rfl (any_of HT_.out (by kernel_rfl)) (fun _ _ _ h => h) (Or.inl ⟨by rfl, ?_⟩) ?_ ?_
  rotate_left
  ·
   intro w'
   go_simp
   with_reducible rfl
  rotate_left
  ·
   simp only [Act.put, List.setIfInBounds_toArray, List.set_cons_zero, List.set_cons_succ, i64_w, i32_w]
   rfl
  refine pure_ (i := 13) (N := some 7) (v := ?_) (a' := ?_) #[true, true, true, true, true, true, true, true, true, true, true, true, true, true, false, false, false] rfl rfl (any_of HT_.out (by kernel_rfl)) (fun _ _ _ h => h) (Or.inl ⟨by rfl, ?_⟩) ?_ ?_
  rotate_left
  ·
   intro w'
   go_simp
   with_reducible rfl
  rotate_left
  ·
   simp only [Act.put, List.setIfInBounds_toArray, List.set_cons_zero, List.set_cons_succ, i64_w, i32_w]
   rfl
  refine pure_ (i := 14) (N := some 8) (v := ?_) (a' := ?_) #[true, true, true, true, true, true, true, true, true, true, true, true, true, true, true, false, false] rfl rfl (any_of HT_.out (by kernel_rfl)) (fun _ _ _ h => h) (Or.inl ⟨by rfl, ?_⟩) ?_ ?_
  rotate_left
  ·
   intro w'
   go_simp
   with_reducible rfl
  rotate_left
  ·
   simp only [Act.put, List.setIfInBounds_toArray, List.set_cons_zero, List.set_cons_succ, i64_w, i32_w]
   rfl
  refine pure_ (i := 15) (N := some 9) (v := ?_) (a' := ?_) #[true, true, true, true, true, true, true, true, true, true, true, true, true, true, true, true, false] rfl rfl (any_of HT_.out (by kernel_rfl)) (fun _ _ _ h => h) (Or.inl ⟨by rfl, ?_⟩) ?_ ?_
  rotate_left
  ·
   intro w'
   go_simp
   with_reducible rfl
  rotate_left
  ·
   simp only [Act.put, List.setIfInBounds_toArray, List.set_cons_zero, List.set_cons_succ, i64_w, i32_w]
   rfl
  refine pure_ (i := 16) (N := some 10) (v := ?_) (a' := ?_) #[true, true, true, true, true, true, true, true, true, true, true, true, true, true, true, true, true] rfl rfl (any_of HT_.out (by kernel_rfl)) (fun _ _ _ h => h) (Or.inl ⟨by rfl, ?_⟩) ?_ ?_
  rotate_left
  ·
   intro w'
   go_simp
   with_reducible rfl
  rotate_left
  ·
   simp only [Act.put, List.setIfInBounds_toArray, List.set_cons_zero, List.set_cons_succ, i64_w, i32_w]
   rfl
  refine done_ (done_of HT_.out (by kernel_rfl)) ?_
  have hcz28_0 : w27.cell? ⟨gb550, 0, none⟩ = some (.slice A0_0 l0_0.length c0_0) := (blk_cell BK550.out 0).trans rfl
  have hcz28_1 : w27.cell? ⟨gb550, 1, none⟩ = some (.slice A0_1 l0_1.length c0_1) := (blk_cell BK550.out 1).trans rfl
  have hcz28_2 : w27.cell? ⟨gb550, 2, none⟩ = some (.slice A0_2 l0_2.length c0_2) := (blk_cell BK550.out 2).trans rfl
  have hfz28_0 := blk_frozen BK550.out 0
  have hfz28_1 := blk_frozen BK550.out 1
  have hfz28_2 := blk_frozen BK550.out 2
  have hcz29_0 : w27.cell? ⟨gb551, 0, none⟩ = some (.int .i64 a1_0) := (blk_cell BK551.out 0).trans rfl
  have hcz29_1 : w27.cell? ⟨gb551, 1, none⟩ = some (.int .i64 a1_1) := (blk_cell BK551.out 1).trans rfl
  have hcz29_2 : w27.cell? ⟨gb551, 2, none⟩ = some (.int .i64 a1_2) := (blk_cell BK551.out 2).trans rfl
  have hcz29_3 : w27.cell? ⟨gb551, 3, none⟩ = some (.int .i64 a1_3) := (blk_cell BK551.out 3).trans rfl
  have hfz29_0 := blk_frozen BK551.out 0
  have hfz29_1 := blk_frozen BK551.out 1
  have hfz29_2 := blk_frozen BK551.out 2
  have hfz29_3 := blk_frozen BK551.out 3
  go_upto_region 5 with (first | ((with_reducible refine gate_callee (f := 47) rfl ?_); refine goesL_ (some 40) rfl rfl Try.func47 (by kernel_rfl) rfl #[.agg #[.slice A0_0 l0_0.length c0_0, .slice A0_1 l0_1.length c0_1, .slice A0_2 l0_2.length c0_2], .agg #[.int .i64 a1_0, .int .i64 a1_1], .agg #[.int .i64 a1_2, .int .i64 a1_3], .int .i64 a2] rfl (by (try simp only [List.map_toArray, List.map_cons, List.map_nil]); first | done | rfl | (simp only [List.length_drop, List.length_take]; rfl)) ?_; (with_reducible refine (swashplateref01_Below.calls k _ _ l0_0 _ _ l0_1 _ _ l0_2 a1_0 a1_1 a1_2 a1_3 a2 t567 t568 t569 t570 _ ?side1 ?side2 ?side3 ?side4 ?side5 ?side6 A15.out).mono ?_); (case side1 => exact cr_ (Kd.C_below HR0_0.out HB.out)); (case side2 => exact HC0_0.out); (case side3 => exact cr_ (Kd.C_below HR0_1.out HB.out)); (case side4 => exact HC0_1.out); (case side5 => exact cr_ (Kd.C_below HR0_2.out HB.out)); (case side6 => exact HC0_2.out); rintro e w30 ⟨rfl, hb⟩; refine ⟨_, rfl, ?_⟩; have n0_ := Aside0.mk (Kd.R_below (by (with_reducible repeat (first | apply Kd.R_alloc | apply Kd.R_drewN | apply Kd.R_drew)); exact HO556.out) hb); have n1_ := Aside0.mk (Kd.R_below (by (with_reducible repeat (first | apply Kd.R_alloc | apply Kd.R_drewN | apply Kd.R_drew)); exact HO559.out) hb); have n2_ := Aside0.mk (Kd.S_below (by (with_reducible repeat (first | apply Kd.S_alloc | apply Kd.S_drewN | apply Kd.S_drew)); exact HO562.out) hb); have n3_ := Aside0.mk (blk_below (bk_ BK550.out) hb); have n4_ := Aside0.mk (blk_below (bk_ BK551.out) hb); have n5_ := Aside0.mk (below_step (bl_ HB.out) hb); clear HO556 HO559 HO562 BK550 BK551 HB; have HO556 := n0_; have HO559 := n1_; have HO562 := n2_; have BK550 := n3_; have BK551 := n4_; have HB := n5_; clear n0_ n1_ n2_ n3_ n4_ n5_; (try clear hb); (try clear hb2); (try clear hk); (try clear hi)))
  (try simp only [Act.put, List.setIfInBounds_toArray, List.set_cons_zero, List.set_cons_succ])
  go_cut [62] (fun v62 wc => ∃ (kq : Nat) (x62_15 : Bool), v62 = .bool x62_15 ∧ Aside0 (swashplatelaw01_SpansBelow.j0 kq a2 t565 t566 x62_15 l0_0 l0_1 l0_2 a1_0 a1_1 a1_2 a1_3 = some r) ∧ Aside0 (kq ≤ k) ∧ Aside0 (wc.heap[gb550]? = some (.cells #[(.slice A0_0 l0_0.length c0_0), (.slice A0_1 l0_1.length c0_1), (.slice A0_2 l0_2.length c0_2)] 25 (0, 0))) ∧ Aside0 (wc.heap[gb551]? = some (.cells #[.int .i64 a1_0, .int .i64 a1_1, .int .i64 a1_2, .int .i64 a1_3] 43 (0, 0))) ∧ Aside0 (Below w.heap.size w wc))
  case first =>
   have H := HC16.out
   clear HC16
   by_cases c31 : t563 = t567
   ·
    rw [if_pos c31] at H
    have c31b0 : (t563 == t567) = true := beq_iff_eq.mpr c31
    have c31b1 : (t563 != t567) = false := bne_eq_false_iff_eq.mpr c31
    clear c31
    (first | rw [c31b0] | (simp only [i64_w, i32_w]; rw [c31b0]) | skip)
    by_cases c32 : t564 = t568
    ·
     rw [if_pos c32] at H
     have c32b0 : (t564 == t568) = true := beq_iff_eq.mpr c32
     have c32b1 : (t564 != t568) = false := bne_eq_false_iff_eq.mpr c32
     clear c32
     by_cases c33 : (t565 != t569) = true
     ·
      rw [if_pos c33] at H
      have c33b0 : (t565 != t569) = true := c33
      (try (have c33b1 : decide (t565 = t569) = false := by simpa using c33))
      (try (have c33b2 : (t565 == t569) = false := by simpa using c33))
      (try (have c33b3 : ¬ (t565 = t569) := by simpa using c33))
      clear c33
      have H' := Aside0.mk H
      clear H
      go_wp2
      go_meet
      case rel => exact ⟨_, (true), (by first | rfl | (simp; done) | (simp [*]; done)), H', ⟨by first | omega | exact Nat.le_refl _⟩, ⟨bk_ BK550.out⟩, ⟨bk_ BK551.out⟩, ⟨bl_ HB.out⟩⟩
     ·
      rw [if_neg c33] at H
      have c33b0 : (t565 != t569) = false := by simpa using c33
      (try (have c33b1 : decide (t565 = t569) = true := by simpa using c33))
      (try (have c33b2 : (t565 == t569) = true := by simpa using c33))
      clear c33
      have H' := Aside0.mk H
      clear H
      go_wp2
      go_meet
      case rel => exact ⟨_, ((t566 != t570)), (by first | rfl | (simp; done) | (simp [*]; done)), H', ⟨by first | omega | exact Nat.le_refl _⟩, ⟨bk_ BK550.out⟩, ⟨bk_ BK551.out⟩, ⟨bl_ HB.out⟩⟩
    ·
     rw [if_neg c32] at H
     have c32b0 : (t564 == t568) = false := beq_eq_false_iff_ne.mpr c32
     have c32b1 : (t564 != t568) = true := bne_iff_ne.mpr c32
     have H' := Aside0.mk H
     clear H
     go_wp2
     go_meet
     case rel => exact ⟨_, (true), (by first | rfl | (simp; done) | (simp [*]; done)), H', ⟨by first | omega | exact Nat.le_refl _⟩, ⟨bk_ BK550.out⟩, ⟨bk_ BK551.out⟩, ⟨bl_ HB.out⟩⟩
   ·
    rw [if_neg c31] at H
    have c31b0 : (t563 == t567) = false := beq_eq_false_iff_ne.mpr c31
    have c31b1 : (t563 != t567) = true := bne_iff_ne.mpr c31
    (first | rw [c31b0] | (simp only [i64_w, i32_w]; rw [c31b0]) | skip)
    have H' := Aside0.mk H
    clear H
    go_wp2
    go_meet
    case rel => exact ⟨_, (true), (by first | rfl | (simp; done) | (simp [*]; done)), H', ⟨by first | omega | exact Nat.le_refl _⟩, ⟨bk_ BK550.out⟩, ⟨bk_ BK551.out⟩, ⟨bl_ HB.out⟩⟩
  case rest =>
   clear HC16
   try clear c1
   try clear c2
   try clear p2
   try clear c3
   try clear c4
   try clear c5
   try clear c8
   try clear c9
   try clear c19
   try clear c20
   try clear c22
   try clear c24
   try clear c31
   try clear c31b0
   try clear c31b1
   try clear c32
   try clear c32b0
   try clear c32b1
   try clear c33
   try clear c33b0
   try clear c33b1
   try clear c33b2
   try clear hcz10_0
   try clear hcz10_1
   try clear hcz10_2
   try clear hcz20_0
   try clear hcz20_1
   try clear hcz20_2
   try clear hcz28_0
   try clear hcz28_1
   try clear hcz28_2
   try clear hcz29_0
   try clear hcz29_1
   try clear hcz29_2
   try clear hcz29_3
   try clear hfz10_0
   try clear hfz10_1
   try clear hfz10_2
   try clear hfz20_0
   try clear hfz20_1
   try clear hfz20_2
   try clear hfz28_0
   try clear hfz28_1
   try clear hfz28_2
   try clear hfz29_0
   try clear hfz29_1
   try clear hfz29_2
   try clear hfz29_3
   obtain ⟨kq, x62_15, rfl, HA, HJ15, BK550, BK551, HB⟩ := hcut
   cases kq with
   | zero => exact absurd HA.out (by simp [swashplatelaw01_SpansBelow.j0])
   | succ kj15 =>
    have H := HA.out
    clear HA
    simp only [swashplatelaw01_SpansBelow.j0] at H
    by_cases c34 : x62_15 = true
    ·
     subst c34
     have H1 : (some false) = some r := by rw [if_pos rfl] at H; exact H
     clear H
     have H := H1
     clear H1
     exact absurd ((Option.some.inj H).trans hrT.out) (by decide)
    ·
     replace c34 := Bool.eq_false_iff.mpr c34
     subst c34
     have H1 : ((swashplateref01_Copy.f kj15 l0_0 l0_1 l0_2).bind fun bt571 => ((spans_Bound.f bt571.1 bt571.2.1 bt571.2.2 a1_0 a1_1 a1_2 a1_3).bind fun bt580 => (if bt580.2.2 = t566 then (if t566 = 0 then (if (t565 == (decide (bt580.2.1 ≤ a2))) = true then ((swashplatelaw01_works.f kj15).bind fun t584 => (some t584)) else (some false)) else ((swashplatelaw01_works.f kj15).bind fun t585 => (some t585))) else (some false)))) = some r := by rw [if_neg (show ¬ (false = true) by decide)] at H; exact H
     clear H
     have H := H1
     clear H1
     replace H := Option.bind_eq_some_iff.mp H
     obtain ⟨⟨t571, t574, t577⟩, A350, H⟩ := H
     replace H : ((spans_Bound.f t571 t574 t577 a1_0 a1_1 a1_2 a1_3).bind fun bt580 => (if bt580.2.2 = t566 then (if t566 = 0 then (if (t565 == (decide (bt580.2.1 ≤ a2))) = true then ((swashplatelaw01_works.f kj15).bind fun t584 => (some t584)) else (some false)) else ((swashplatelaw01_works.f kj15).bind fun t585 => (some t585))) else (some false))) = some r := H
     have A35 := Aside0.mk A350
     clear A350
     replace H := Option.bind_eq_some_iff.mp H
     obtain ⟨⟨t580, t581, t582⟩, A360, H⟩ := H
     replace H : (if t582 = t566 then (if t566 = 0 then (if (t565 == (decide (t581 ≤ a2))) = true then ((swashplatelaw01_works.f kj15).bind fun t584 => (some t584)) else (some false)) else ((swashplatelaw01_works.f kj15).bind fun t585 => (some t585))) else (some false)) = some r := H
     have A36 := Aside0.mk A360
     clear A360
     by_cases c37 : t582 = t566
     ·
      rw [if_pos c37] at H
      have c37b0 : (t582 == t566) = true := beq_iff_eq.mpr c37
      have c37b1 : (t582 != t566) = false := bne_eq_false_iff_eq.mpr c37
      clear c37
      by_cases c38 : t566 = 0
      ·
       rw [if_pos c38] at H
       have c38b0 : (t566 == 0) = true := beq_iff_eq.mpr c38
       have c38b1 : (t566 != 0) = false := bne_eq_false_iff_eq.mpr c38
       clear c38
       by_cases c39 : (t565 == (decide (t581 ≤ a2))) = true
       ·
        rw [if_pos c39] at H
        have c39b0 : (t565 == (decide (t581 ≤ a2))) = true := c39
        (try (have c39b1 : decide (t565 = (decide (t581 ≤ a2))) = true := by simpa using c39))
        (try (have c39b2 : (t565 == (decide (t581 ≤ a2))) = true := by simpa using c39))
        clear c39
        replace H := Option.bind_eq_some_iff.mp H
        obtain ⟨t584, A400, H⟩ := H
        replace H : (some t584) = some r := H
        have A40 := Aside0.mk A400
        clear A400
        obtain rfl := Option.some.inj H
        try go_wp2
        have n0_ := Aside0.mk (blk_drew BK550.out)
        have n1_ := Aside0.mk (blk_drew BK551.out)
        have n2_ := Aside0.mk (below_drew1 HB.out)
        clear BK550 BK551 HB
        have BK550 := n0_
        have BK551 := n1_
        have HB := n2_
        clear n0_ n1_ n2_
        refine start_ (n := 13) (S := fun w' => w'.cell? ⟨gb550, 0, none⟩ = some (.slice A0_0 l0_0.length c0_0) ∧ w'.cell? ⟨gb550, 1, none⟩ = some (.slice A0_1 l0_1.length c0_1) ∧ w'.cell? ⟨gb550, 2, none⟩ = some (.slice A0_2 l0_2.length c0_2) ∧ w'.cell? ⟨gb551, 0, none⟩ = some (.int .i64 a1_0) ∧ w'.cell? ⟨gb551, 1, none⟩ = some (.int .i64 a1_1) ∧ w'.cell? ⟨gb551, 2, none⟩ = some (.int .i64 a1_2) ∧ w'.cell? ⟨gb551, 3, none⟩ = some (.int .i64 a1_3)) (ds := []) #[false, false, false, false, false, false, false, false, false, false, false, false, false] (by kernel_rfl) rfl rfl ⟨(blk_cell BK550.out 0).trans rfl, (blk_cell BK550.out 1).trans rfl, (blk_cell BK550.out 2).trans rfl, (blk_cell BK551.out 0).trans rfl, (blk_cell BK551.out 1).trans rfl, (blk_cell BK551.out 2).trans rfl, (blk_cell BK551.out 3).trans rfl⟩ (fun hHeld => ?_); refine with_tabW swashplatelaw01_SpansBelow.tab7 swashplatelaw01_SpansBelow.bits7 (fun HT_ HW_ => ?_)
        generalize wc.drew = w41 at BK550 BK551 HB hHeld ⊢
        refine pure_ (i := 2) (N := some 66) (v := ?_) (a' := ?_) #[false, false, true, false, false, false, false, false, false, false, false, false, false] rfl rfl (any_of HT_.out (by kernel_rfl)) (fun _ _ _ h => h) (Or.inl ⟨by rfl, ?_⟩) ?_ ?_
        rotate_left
        ·
         intro w'
         go_simp
         with_reducible rfl
        rotate_left
        ·
         simp only [Act.put, List.setIfInBounds_toArray, List.set_cons_zero, List.set_cons_succ, i64_w, i32_w]
         rfl
        refine pure_ (i := 4) (N := some 68) (v := ?_) (a' := ?_) #[false, false, true, false, true, false, false, false, false, false, false, false, false] rfl rfl (any_of HT_.out (by kernel_rfl)) (fun _ _ _ h => h) (Or.inl ⟨by rfl, ?_⟩) ?_ ?_
        rotate_left
        ·
         intro w'
         go_simp
         with_reducible rfl
        rotate_left
        ·
         simp only [Act.put, List.setIfInBounds_toArray, List.set_cons_zero, List.set_cons_succ, i64_w, i32_w]
         rfl
        refine take_ (i := 0) (N := some 64) (v := ?_) (a' := ?_) #[true, false, true, false, true, false, false, false, false, false, false, false, false] rfl rfl (take_ofW HT_.out HW_.out (by kernel_rfl)) (fun _ _ _ h => h) (Or.inl ⟨by rfl, ?_⟩) hHeld ?_ ?_
        rotate_left
        ·
         rintro w' ⟨s0, s1, s2, s3, s4, s5, s6⟩
         go_simp
         with_reducible rfl
        rotate_left
        ·
         simp only [Act.put, List.setIfInBounds_toArray, List.set_cons_zero, List.set_cons_succ, i64_w, i32_w]
         rfl
        refine take_ (i := 3) (N := some 67) (v := ?_) (a' := ?_) #[true, false, true, true, true, false, false, false, false, false, false, false, false] rfl rfl (take_ofW HT_.out HW_.out (by kernel_rfl)) (fun _ _ _ h => h) (Or.inl ⟨by rfl, ?_⟩) hHeld ?_ ?_
        rotate_left
        ·
         rintro w' ⟨s0, s1, s2, s3, s4, s5, s6⟩
         go_simp
         with_reducible rfl
        rotate_left
        ·
         simp only [Act.put, List.setIfInBounds_toArray, List.set_cons_zero, List.set_cons_succ, i64_w, i32_w]
         rfl
        refine take_ (i := 5) (N := some 69) (v := ?_) (a' := ?_) #[true, false, true, true, true, true, false, false, false, false, false, false, false] rfl rfl (take_ofW HT_.out HW_.out (by kernel_rfl)) (fun _ _ _ h => h) (Or.inl ⟨by rfl, ?_⟩) hHeld ?_ ?_
        rotate_left
        ·
         rintro w' ⟨s0, s1, s2, s3, s4, s5, s6⟩
         go_simp
         with_reducible rfl
        rotate_left
        ·
         simp only [Act.put, List.setIfInBounds_toArray, List.set_cons_zero, List.set_cons_succ, i64_w, i32_w]
         rfl
        refine join_ (σ := Value × Value × Value × Nat) 2 #[true, true, true, true, true, true, true, true, true, true, true, false, false] (fun s_ => [(65, .agg #[s_.1, s_.2.1, s_.2.2.1]), (70, .tuple #[.agg #[.int .i64 t580, .int .i64 t581], .int .i64 t582]), (15, .pointer (some ⟨s_.2.2.2, 0, none⟩)), (63, .tuple #[.agg #[.int .i64 t580, .int .i64 t581], .int .i64 t582]), (71, .agg #[.int .i64 t580, .int .i64 t581]), (72, .int .i64 t582)]) (fun s_ w' => (w'.cell? ⟨gb550, 0, none⟩ = some (.slice A0_0 l0_0.length c0_0) ∧ w'.cell? ⟨gb550, 1, none⟩ = some (.slice A0_1 l0_1.length c0_1) ∧ w'.cell? ⟨gb550, 2, none⟩ = some (.slice A0_2 l0_2.length c0_2) ∧ w'.cell? ⟨gb551, 0, none⟩ = some (.int .i64 a1_0) ∧ w'.cell? ⟨gb551, 1, none⟩ = some (.int .i64 a1_1) ∧ w'.cell? ⟨gb551, 2, none⟩ = some (.int .i64 a1_2) ∧ w'.cell? ⟨gb551, 3, none⟩ = some (.int .i64 a1_3)) ∧ (Kd.R (Kd.int .i64) 3 w' w.heap.size (fun k_ => some k_ ≠ (s_.2.1 : Value).ownBlock) s_.1 t571) ∧ (Kd.R (Kd.int .i64) 3 w' w.heap.size (fun k_ => some k_ ≠ (s_.1 : Value).ownBlock) s_.2.1 t574) ∧ (Kd.S (Kd.slice 3 (Kd.int .i64)) 22 w' w.heap.size (fun k_ => some k_ ≠ (s_.1 : Value).ownBlock ∧ some k_ ≠ (s_.2.1 : Value).ownBlock) s_.2.2.1 t577) ∧ (w'.heap[gb550]? = some (.cells #[.slice A0_0 l0_0.length c0_0, .slice A0_1 l0_1.length c0_1, .slice A0_2 l0_2.length c0_2] 25 (0, 0))) ∧ (w'.heap[gb551]? = some (.cells #[.int .i64 a1_0, .int .i64 a1_1, .int .i64 a1_2, .int .i64 a1_3] 43 (0, 0))) ∧ (w'.heap[s_.2.2.2]? = some (.cells #[.int .i64 0, .int .i64 0] 27 (0, 0))) ∧ (w.heap.size ≤ s_.2.2.2) ∧ (w.heap.size ≤ s_.2.2.2) ∧ (gb550 ≠ s_.2.2.2) ∧ (s_.2.2.2 ≠ gb550) ∧ (gb551 ≠ s_.2.2.2) ∧ (s_.2.2.2 ≠ gb551) ∧ (Below w.heap.size w w')) ?_ ?_
        rotate_left
        ·
         intro hCont
         refine two_ (i := 1) (j := 10) (Ni := some 65) (Nj := some 15) #[true, true, true, true, true, true, false, false, false, false, false, false, false] #[true, false, true, true, true, true, false, false, false, false, true, false, false] rfl rfl rfl rfl (two_of HT_.out (by kernel_rfl)) (by decide) (by decide) (fun K hK => ?_) (fun K hK => ?_)
         ·
          skip
          refine goes_ Try.func24 (by kernel_rfl) rfl #[.agg #[.slice A0_0 l0_0.length c0_0, .slice A0_1 l0_1.length c0_1, .slice A0_2 l0_2.length c0_2]] (by rfl) rfl rfl (by (try simp only [List.map_toArray, List.map_cons, List.map_nil]); first | done | rfl | (simp only [List.length_drop, List.length_take]; rfl)) ?_
          with_reducible refine (swashplateref01_Copy.calls kj15 _ _ l0_0 _ _ l0_1 _ _ l0_2 t571 t574 t577 _ ?side1 ?side2 ?side3 ?side4 ?side5 ?side6 A35.out).mono ?_
          (case side1 => exact cr_ (Kd.C_below HR0_0.out HB.out))
          (case side2 => exact HC0_0.out)
          (case side3 => exact cr_ (Kd.C_below HR0_1.out HB.out))
          (case side4 => exact HC0_1.out)
          (case side5 => exact cr_ (Kd.C_below HR0_2.out HB.out))
          (case side6 => exact HC0_2.out)
          rintro e w42 ⟨v572, v575, v578, rfl, ho0, ho1, ho2, hb⟩
          refine ⟨_, rfl, ?_⟩
          have n0_ := Aside0.mk (Kd.R_lower ho0 (below_size (bl_ HB.out)))
          have n1_ := Aside0.mk (Kd.R_lower ho1 (below_size (bl_ HB.out)))
          have n2_ := Aside0.mk (Kd.S_lower ho2 (below_size (bl_ HB.out)))
          have n3_ := Aside0.mk (blk_below (bk_ BK550.out) hb)
          have n4_ := Aside0.mk (blk_below (bk_ BK551.out) hb)
          have n5_ := Aside0.mk (below_step (bl_ HB.out) hb)
          clear BK550 BK551 HB
          have HO573 := n0_
          have HO576 := n1_
          have HO579 := n2_
          have BK550 := n3_
          have BK551 := n4_
          have HB := n5_
          clear n0_ n1_ n2_ n3_ n4_ n5_
          (try clear hb)
          (try clear hb2)
          (try clear hk)
          (try clear hi)
          (try clear ho0)
          (try clear ho1)
          (try clear ho2)
          obtain ⟨Ao43, co43, eo43⟩ := Kd.R_slice HO573.out
          (first | subst eo43 | (injection eo43 with f1_ f2_ f3_; have f4_ := f1_.symm; have f5_ := f3_.symm; clear f1_ f2_ f3_; subst f4_; subst f5_))
          obtain ⟨Ao44, co44, eo44⟩ := Kd.R_slice HO576.out
          (first | subst eo44 | (injection eo44 with f1_ f2_ f3_; have f4_ := f1_.symm; have f5_ := f3_.symm; clear f1_ f2_ f3_; subst f4_; subst f5_))
          obtain ⟨Ao45, co45, eo45⟩ := Kd.S_slice HO579.out
          (first | subst eo45 | (injection eo45 with f1_ f2_ f3_; have f4_ := f1_.symm; have f5_ := f3_.symm; clear f1_ f2_ f3_; subst f4_; subst f5_))
          refine hK.out _ _ ⟨(blk_cell BK550.out 0).trans rfl, (blk_cell BK550.out 1).trans rfl, (blk_cell BK550.out 2).trans rfl, (blk_cell BK551.out 0).trans rfl, (blk_cell BK551.out 1).trans rfl, (blk_cell BK551.out 2).trans rfl, (blk_cell BK551.out 3).trans rfl⟩ (fun hHeld => ?_)
          clear hK K
          refine norm_ (a' := ?_) ?_ ?_
          rotate_left
          ·
           show Act.put _ (some 65) _ = _
           simp only [Act.put, List.setIfInBounds_toArray, List.set_cons_zero, List.set_cons_succ, i64_w, i32_w]
           rfl
          refine two_ (i := 6) (j := 10) (Ni := some 70) (Nj := some 15) #[true, true, true, true, true, true, true, false, false, false, false, false, false] #[true, true, true, true, true, true, false, false, false, false, true, false, false] rfl rfl rfl rfl (two_of HT_.out (by kernel_rfl)) (by decide) (by decide) (fun K hK => ?_) (fun K hK => ?_)
          ·
           skip
           refine goes_ Try.func30 (by kernel_rfl) rfl #[.agg #[.slice Ao43 t571.length co43, .slice Ao44 t574.length co44, .slice Ao45 t577.length co45], .agg #[.int .i64 a1_0, .int .i64 a1_1], .agg #[.int .i64 a1_2, .int .i64 a1_3]] (by rfl) rfl rfl (by (try simp only [List.map_toArray, List.map_cons, List.map_nil]); first | done | rfl | (simp only [List.length_drop, List.length_take]; rfl)) ?_
           with_reducible refine (spans_Bound.calls _ _ t571 _ _ t574 _ _ t577 a1_0 a1_1 a1_2 a1_3 t580 t581 t582 _ ?side1 ?side2 ?side3 ?side4 ?side5 ?side6 A36.out).mono ?_
           (case side1 => exact cr_ (Kd.R_reads' HO573.out).2.2)
           (case side2 => exact (Kd.R_reads' HO573.out).2.1)
           (case side3 => exact cr_ (Kd.R_reads' HO576.out).2.2)
           (case side4 => exact (Kd.R_reads' HO576.out).2.1)
           (case side5 => exact cr_ (Kd.S_reads' HO579.out).2.2)
           (case side6 => exact (Kd.S_reads' HO579.out).2.1)
           rintro e w46 ⟨rfl, hb⟩
           refine ⟨_, rfl, ?_⟩
           have n0_ := Aside0.mk (Kd.R_below (by (with_reducible repeat (first | apply Kd.R_alloc | apply Kd.R_drewN | apply Kd.R_drew)); exact HO573.out) hb)
           have n1_ := Aside0.mk (Kd.R_below (by (with_reducible repeat (first | apply Kd.R_alloc | apply Kd.R_drewN | apply Kd.R_drew)); exact HO576.out) hb)
           have n2_ := Aside0.mk (Kd.S_below (by (with_reducible repeat (first | apply Kd.S_alloc | apply Kd.S_drewN | apply Kd.S_drew)); exact HO579.out) hb)
           have n3_ := Aside0.mk (blk_below (bk_ BK550.out) hb)
           have n4_ := Aside0.mk (blk_below (bk_ BK551.out) hb)
           have n5_ := Aside0.mk (below_step (bl_ HB.out) hb)
           clear HO573 HO576 HO579 BK550 BK551 HB
           have HO573 := n0_
           have HO576 := n1_
           have HO579 := n2_
           have BK550 := n3_
           have BK551 := n4_
           have HB := n5_
           clear n0_ n1_ n2_ n3_ n4_ n5_
           (try clear hb)
           (try clear hb2)
           (try clear hk)
           (try clear hi)
           refine hK.out _ _ ⟨(blk_cell BK550.out 0).trans rfl, (blk_cell BK550.out 1).trans rfl, (blk_cell BK550.out 2).trans rfl, (blk_cell BK551.out 0).trans rfl, (blk_cell BK551.out 1).trans rfl, (blk_cell BK551.out 2).trans rfl, (blk_cell BK551.out 3).trans rfl⟩ (fun hHeld => ?_)
           clear hK K
           refine norm_ (a' := ?_) ?_ ?_
           rotate_left
           ·
            show Act.put _ (some 70) _ = _
            simp only [Act.put, List.setIfInBounds_toArray, List.set_cons_zero, List.set_cons_succ, i64_w, i32_w]
            rfl
           refine pure_ (i := 7) (N := some 63) (v := ?_) (a' := ?_) #[true, true, true, true, true, true, true, true, false, false, false, false, false] rfl rfl (any_of HT_.out (by kernel_rfl)) (fun _ _ _ h => h) (Or.inl ⟨by rfl, ?_⟩) ?_ ?_
           rotate_left
           ·
            intro w'
            go_simp
            with_reducible rfl
           rotate_left
           ·
            simp only [Act.put, List.setIfInBounds_toArray, List.set_cons_zero, List.set_cons_succ, i64_w, i32_w]
            rfl
           refine pure_ (i := 8) (N := some 71) (v := ?_) (a' := ?_) #[true, true, true, true, true, true, true, true, true, false, false, false, false] rfl rfl (any_of HT_.out (by kernel_rfl)) (fun _ _ _ h => h) (Or.inl ⟨by rfl, ?_⟩) ?_ ?_
           rotate_left
           ·
            intro w'
            go_simp
            with_reducible rfl
           rotate_left
           ·
            simp only [Act.put, List.setIfInBounds_toArray, List.set_cons_zero, List.set_cons_succ, i64_w, i32_w]
            rfl
           refine pure_ (i := 9) (N := some 72) (v := ?_) (a' := ?_) #[true, true, true, true, true, true, true, true, true, true, false, false, false] rfl rfl (any_of HT_.out (by kernel_rfl)) (fun _ _ _ h => h) (Or.inl ⟨by rfl, ?_⟩) ?_ ?_
           rotate_left
           ·
            intro w'
            go_simp
            with_reducible rfl
           rotate_left
           ·
            simp only [Act.put, List.setIfInBounds_toArray, List.set_cons_zero, List.set_cons_succ, i64_w, i32_w]
            rfl
           refine one_ (i := 10) (N := some 15) #[true, true, true, true, true, true, true, true, true, true, true, false, false] rfl rfl (one_of HT_.out (by kernel_rfl)) (by decide) (fun K hK => ?_)
           refine box_step ?hg (N := 15) ?hd (cs := #[.int .i64 0, .int .i64 0]) (t := 27) ?hr ?_; (case hd => rfl); (case hg => rfl); (case hr => first | (go_simp; done) | (go_simp; rfl))
           intro gb583 hg w47 hbox hb
           have n0_ := Aside0.mk (Kd.R_below (by (with_reducible repeat (first | apply Kd.R_alloc | apply Kd.R_drewN | apply Kd.R_drew)); exact HO573.out) hb)
           have n1_ := Aside0.mk (Kd.R_below (by (with_reducible repeat (first | apply Kd.R_alloc | apply Kd.R_drewN | apply Kd.R_drew)); exact HO576.out) hb)
           have n2_ := Aside0.mk (Kd.S_below (by (with_reducible repeat (first | apply Kd.S_alloc | apply Kd.S_drewN | apply Kd.S_drew)); exact HO579.out) hb)
           have n3_ := Aside0.mk (blk_below (bk_ BK550.out) hb)
           have n4_ := Aside0.mk (blk_below (bk_ BK551.out) hb)
           have n5_ := Aside0.mk (below_step (bl_ HB.out) hb)
           have n6_ := Aside0.mk (hbox)
           have n7_ := Aside0.mk (szl_ hg HB.out)
           have n8_ := Aside0.mk (szl_ hg HB.out)
           have n9_ := Aside0.mk (nel_ hg BK550.out)
           have n10_ := Aside0.mk (ner_ hg BK550.out)
           have n11_ := Aside0.mk (nel_ hg BK551.out)
           have n12_ := Aside0.mk (ner_ hg BK551.out)
           clear HO573 HO576 HO579 BK550 BK551 HB
           have HO573 := n0_
           have HO576 := n1_
           have HO579 := n2_
           have BK550 := n3_
           have BK551 := n4_
           have HB := n5_
           have BK583 := n6_
           have GW583 := n7_
           have GE583 := n8_
           have NB550_583 := n9_
           have NB583_550 := n10_
           have NB551_583 := n11_
           have NB583_551 := n12_
           clear n0_ n1_ n2_ n3_ n4_ n5_ n6_ n7_ n8_ n9_ n10_ n11_ n12_ hb hbox hg
           refine hK.out _ _ ⟨(blk_cell BK550.out 0).trans rfl, (blk_cell BK550.out 1).trans rfl, (blk_cell BK550.out 2).trans rfl, (blk_cell BK551.out 0).trans rfl, (blk_cell BK551.out 1).trans rfl, (blk_cell BK551.out 2).trans rfl, (blk_cell BK551.out 3).trans rfl⟩ (fun hHeld => ?_)
           clear hK K
           refine norm_ (a' := ?_) ?_ ?_
           rotate_left
           ·
            show Act.put _ (some 15) _ = _
            simp only [Act.put, List.setIfInBounds_toArray, List.set_cons_zero, List.set_cons_succ, i64_w, i32_w]
            rfl
           exact norm_ (by simp only [putAll, Act.put, List.setIfInBounds_toArray, List.set_cons_zero, List.set_cons_succ]) (hCont (.slice Ao43 t571.length co43, .slice Ao44 t574.length co44, .slice Ao45 t577.length co45, gb583) _ ⟨hHeld, (by (with_reducible repeat (first | apply Kd.R_alloc | apply Kd.R_drewN | apply Kd.R_drew)); exact HO573.out), (by (with_reducible repeat (first | apply Kd.R_alloc | apply Kd.R_drewN | apply Kd.R_drew)); exact HO576.out), (by (with_reducible repeat (first | apply Kd.S_alloc | apply Kd.S_drewN | apply Kd.S_drew)); exact HO579.out), (bk_ BK550.out), (bk_ BK551.out), (bk_ BK583.out), GW583.out, GE583.out, NB550_583.out, NB583_550.out, NB551_583.out, NB583_551.out, (bl_ HB.out)⟩)
          ·
           skip
           refine box_step ?hg (N := 15) ?hd (cs := #[.int .i64 0, .int .i64 0]) (t := 27) ?hr ?_; (case hd => rfl); (case hg => rfl); (case hr => first | (go_simp; done) | (go_simp; rfl))
           intro gb583 hg w43 hbox hb
           have n0_ := Aside0.mk (Kd.R_below (by (with_reducible repeat (first | apply Kd.R_alloc | apply Kd.R_drewN | apply Kd.R_drew)); exact HO573.out) hb)
           have n1_ := Aside0.mk (Kd.R_below (by (with_reducible repeat (first | apply Kd.R_alloc | apply Kd.R_drewN | apply Kd.R_drew)); exact HO576.out) hb)
           have n2_ := Aside0.mk (Kd.S_below (by (with_reducible repeat (first | apply Kd.S_alloc | apply Kd.S_drewN | apply Kd.S_drew)); exact HO579.out) hb)
           have n3_ := Aside0.mk (blk_below (bk_ BK550.out) hb)
           have n4_ := Aside0.mk (blk_below (bk_ BK551.out) hb)
           have n5_ := Aside0.mk (below_step (bl_ HB.out) hb)
           have n6_ := Aside0.mk (hbox)
           have n7_ := Aside0.mk (szl_ hg HB.out)
           have n8_ := Aside0.mk (szl_ hg HB.out)
           have n9_ := Aside0.mk (nel_ hg BK550.out)
           have n10_ := Aside0.mk (ner_ hg BK550.out)
           have n11_ := Aside0.mk (nel_ hg BK551.out)
           have n12_ := Aside0.mk (ner_ hg BK551.out)
           clear HO573 HO576 HO579 BK550 BK551 HB
           have HO573 := n0_
           have HO576 := n1_
           have HO579 := n2_
           have BK550 := n3_
           have BK551 := n4_
           have HB := n5_
           have BK583 := n6_
           have GW583 := n7_
           have GE583 := n8_
           have NB550_583 := n9_
           have NB583_550 := n10_
           have NB551_583 := n11_
           have NB583_551 := n12_
           clear n0_ n1_ n2_ n3_ n4_ n5_ n6_ n7_ n8_ n9_ n10_ n11_ n12_ hb hbox hg
           obtain ⟨Ao44, co44, eo44⟩ := Kd.R_slice HO573.out
           (first | subst eo44 | (injection eo44 with f1_ f2_ f3_; have f4_ := f1_.symm; have f5_ := f3_.symm; clear f1_ f2_ f3_; subst f4_; subst f5_))
           obtain ⟨Ao45, co45, eo45⟩ := Kd.R_slice HO576.out
           (first | subst eo45 | (injection eo45 with f1_ f2_ f3_; have f4_ := f1_.symm; have f5_ := f3_.symm; clear f1_ f2_ f3_; subst f4_; subst f5_))
           obtain ⟨Ao46, co46, eo46⟩ := Kd.S_slice HO579.out
           (first | subst eo46 | (injection eo46 with f1_ f2_ f3_; have f4_ := f1_.symm; have f5_ := f3_.symm; clear f1_ f2_ f3_; subst f4_; subst f5_))
           refine hK.out _ _ ⟨(blk_cell BK550.out 0).trans rfl, (blk_cell BK550.out 1).trans rfl, (blk_cell BK550.out 2).trans rfl, (blk_cell BK551.out 0).trans rfl, (blk_cell BK551.out 1).trans rfl, (blk_cell BK551.out 2).trans rfl, (blk_cell BK551.out 3).trans rfl⟩ (fun hHeld => ?_)
           clear hK K
           refine norm_ (a' := ?_) ?_ ?_
           rotate_left
           ·
            show Act.put _ (some 15) _ = _
            simp only [Act.put, List.setIfInBounds_toArray, List.set_cons_zero, List.set_cons_succ, i64_w, i32_w]
            rfl
           refine one_ (i := 6) (N := some 70) #[true, true, true, true, true, true, true, false, false, false, true, false, false] rfl rfl (one_of HT_.out (by kernel_rfl)) (by decide) (fun K hK => ?_)
           refine goes_ Try.func30 (by kernel_rfl) rfl #[.agg #[.slice Ao44 t571.length co44, .slice Ao45 t574.length co45, .slice Ao46 t577.length co46], .agg #[.int .i64 a1_0, .int .i64 a1_1], .agg #[.int .i64 a1_2, .int .i64 a1_3]] (by rfl) rfl rfl (by (try simp only [List.map_toArray, List.map_cons, List.map_nil]); first | done | rfl | (simp only [List.length_drop, List.length_take]; rfl)) ?_
           with_reducible refine (spans_Bound.calls _ _ t571 _ _ t574 _ _ t577 a1_0 a1_1 a1_2 a1_3 t580 t581 t582 _ ?side1 ?side2 ?side3 ?side4 ?side5 ?side6 A36.out).mono ?_
           (case side1 => exact cr_ (Kd.R_reads' HO573.out).2.2)
           (case side2 => exact (Kd.R_reads' HO573.out).2.1)
           (case side3 => exact cr_ (Kd.R_reads' HO576.out).2.2)
           (case side4 => exact (Kd.R_reads' HO576.out).2.1)
           (case side5 => exact cr_ (Kd.S_reads' HO579.out).2.2)
           (case side6 => exact (Kd.S_reads' HO579.out).2.1)
           rintro e w47 ⟨rfl, hb⟩
           refine ⟨_, rfl, ?_⟩
           have n0_ := Aside0.mk (Kd.R_below (by (with_reducible repeat (first | apply Kd.R_alloc | apply Kd.R_drewN | apply Kd.R_drew)); exact HO573.out) hb)
           have n1_ := Aside0.mk (Kd.R_below (by (with_reducible repeat (first | apply Kd.R_alloc | apply Kd.R_drewN | apply Kd.R_drew)); exact HO576.out) hb)
           have n2_ := Aside0.mk (Kd.S_below (by (with_reducible repeat (first | apply Kd.S_alloc | apply Kd.S_drewN | apply Kd.S_drew)); exact HO579.out) hb)
           have n3_ := Aside0.mk (blk_below (bk_ BK550.out) hb)
           have n4_ := Aside0.mk (blk_below (bk_ BK551.out) hb)
           have n5_ := Aside0.mk (blk_below (bk_ BK583.out) hb)
           have n6_ := Aside0.mk (below_step (bl_ HB.out) hb)
           clear HO573 HO576 HO579 BK550 BK551 BK583 HB
           have HO573 := n0_
           have HO576 := n1_
           have HO579 := n2_
           have BK550 := n3_
           have BK551 := n4_
           have BK583 := n5_
           have HB := n6_
           clear n0_ n1_ n2_ n3_ n4_ n5_ n6_
           (try clear hb)
           (try clear hb2)
           (try clear hk)
           (try clear hi)
           refine hK.out _ _ ⟨(blk_cell BK550.out 0).trans rfl, (blk_cell BK550.out 1).trans rfl, (blk_cell BK550.out 2).trans rfl, (blk_cell BK551.out 0).trans rfl, (blk_cell BK551.out 1).trans rfl, (blk_cell BK551.out 2).trans rfl, (blk_cell BK551.out 3).trans rfl⟩ (fun hHeld => ?_)
           clear hK K
           refine norm_ (a' := ?_) ?_ ?_
           rotate_left
           ·
            show Act.put _ (some 70) _ = _
            simp only [Act.put, List.setIfInBounds_toArray, List.set_cons_zero, List.set_cons_succ, i64_w, i32_w]
            rfl
           refine pure_ (i := 7) (N := some 63) (v := ?_) (a' := ?_) #[true, true, true, true, true, true, true, true, false, false, true, false, false] rfl rfl (any_of HT_.out (by kernel_rfl)) (fun _ _ _ h => h) (Or.inl ⟨by rfl, ?_⟩) ?_ ?_
           rotate_left
           ·
            intro w'
            go_simp
            with_reducible rfl
           rotate_left
           ·
            simp only [Act.put, List.setIfInBounds_toArray, List.set_cons_zero, List.set_cons_succ, i64_w, i32_w]
            rfl
           refine pure_ (i := 8) (N := some 71) (v := ?_) (a' := ?_) #[true, true, true, true, true, true, true, true, true, false, true, false, false] rfl rfl (any_of HT_.out (by kernel_rfl)) (fun _ _ _ h => h) (Or.inl ⟨by rfl, ?_⟩) ?_ ?_
           rotate_left
           ·
            intro w'
            go_simp
            with_reducible rfl
           rotate_left
           ·
            simp only [Act.put, List.setIfInBounds_toArray, List.set_cons_zero, List.set_cons_succ, i64_w, i32_w]
            rfl
           refine pure_ (i := 9) (N := some 72) (v := ?_) (a' := ?_) #[true, true, true, true, true, true, true, true, true, true, true, false, false] rfl rfl (any_of HT_.out (by kernel_rfl)) (fun _ _ _ h => h) (Or.inl ⟨by rfl, ?_⟩) ?_ ?_
           rotate_left
           ·
            intro w'
            go_simp
            with_reducible rfl
           rotate_left
           ·
            simp only [Act.put, List.setIfInBounds_toArray, List.set_cons_zero, List.set_cons_succ, i64_w, i32_w]
            rfl
           exact norm_ (by simp only [putAll, Act.put, List.setIfInBounds_toArray, List.set_cons_zero, List.set_cons_succ]) (hCont (.slice Ao44 t571.length co44, .slice Ao45 t574.length co45, .slice Ao46 t577.length co46, gb583) _ ⟨hHeld, (by (with_reducible repeat (first | apply Kd.R_alloc | apply Kd.R_drewN | apply Kd.R_drew)); exact HO573.out), (by (with_reducible repeat (first | apply Kd.R_alloc | apply Kd.R_drewN | apply Kd.R_drew)); exact HO576.out), (by (with_reducible repeat (first | apply Kd.S_alloc | apply Kd.S_drewN | apply Kd.S_drew)); exact HO579.out), (bk_ BK550.out), (bk_ BK551.out), (bk_ BK583.out), GW583.out, GE583.out, NB550_583.out, NB583_550.out, NB551_583.out, NB583_551.out, (bl_ HB.out)⟩)
         ·
          skip
          refine box_step ?hg (N := 15) ?hd (cs := #[.int .i64 0, .int .i64 0]) (t := 27) ?hr ?_; (case hd => rfl); (case hg => rfl); (case hr => first | (go_simp; done) | (go_simp; rfl))
          intro gb583 hg w42 hbox hb
          have n0_ := Aside0.mk (blk_below (bk_ BK550.out) hb)
          have n1_ := Aside0.mk (blk_below (bk_ BK551.out) hb)
          have n2_ := Aside0.mk (below_step (bl_ HB.out) hb)
          have n3_ := Aside0.mk (hbox)
          have n4_ := Aside0.mk (szl_ hg HB.out)
          have n5_ := Aside0.mk (szl_ hg HB.out)
          have n6_ := Aside0.mk (nel_ hg BK550.out)
          have n7_ := Aside0.mk (ner_ hg BK550.out)
          have n8_ := Aside0.mk (nel_ hg BK551.out)
          have n9_ := Aside0.mk (ner_ hg BK551.out)
          clear BK550 BK551 HB
          have BK550 := n0_
          have BK551 := n1_
          have HB := n2_
          have BK583 := n3_
          have GW583 := n4_
          have GE583 := n5_
          have NB550_583 := n6_
          have NB583_550 := n7_
          have NB551_583 := n8_
          have NB583_551 := n9_
          clear n0_ n1_ n2_ n3_ n4_ n5_ n6_ n7_ n8_ n9_ hb hbox hg
          refine hK.out _ _ ⟨(blk_cell BK550.out 0).trans rfl, (blk_cell BK550.out 1).trans rfl, (blk_cell BK550.out 2).trans rfl, (blk_cell BK551.out 0).trans rfl, (blk_cell BK551.out 1).trans rfl, (blk_cell BK551.out 2).trans rfl, (blk_cell BK551.out 3).trans rfl⟩ (fun hHeld => ?_)
          clear hK K
          refine norm_ (a' := ?_) ?_ ?_
          rotate_left
          ·
           show Act.put _ (some 15) _ = _
           simp only [Act.put, List.setIfInBounds_toArray, List.set_cons_zero, List.set_cons_succ, i64_w, i32_w]
           rfl
          refine one_ (i := 1) (N := some 65) #[true, true, true, true, true, true, false, false, false, false, true, false, false] rfl rfl (one_of HT_.out (by kernel_rfl)) (by decide) (fun K hK => ?_)
          refine goes_ Try.func24 (by kernel_rfl) rfl #[.agg #[.slice A0_0 l0_0.length c0_0, .slice A0_1 l0_1.length c0_1, .slice A0_2 l0_2.length c0_2]] (by rfl) rfl rfl (by (try simp only [List.map_toArray, List.map_cons, List.map_nil]); first | done | rfl | (simp only [List.length_drop, List.length_take]; rfl)) ?_
          with_reducible refine (swashplateref01_Copy.calls kj15 _ _ l0_0 _ _ l0_1 _ _ l0_2 t571 t574 t577 _ ?side1 ?side2 ?side3 ?side4 ?side5 ?side6 A35.out).mono ?_
          (case side1 => exact cr_ (Kd.C_below HR0_0.out HB.out))
          (case side2 => exact HC0_0.out)
          (case side3 => exact cr_ (Kd.C_below HR0_1.out HB.out))
          (case side4 => exact HC0_1.out)
          (case side5 => exact cr_ (Kd.C_below HR0_2.out HB.out))
          (case side6 => exact HC0_2.out)
          rintro e w43 ⟨v572, v575, v578, rfl, ho0, ho1, ho2, hb⟩
          refine ⟨_, rfl, ?_⟩
          have n0_ := Aside0.mk (Kd.R_lower ho0 (below_size (bl_ HB.out)))
          have n1_ := Aside0.mk (Kd.R_lower ho1 (below_size (bl_ HB.out)))
          have n2_ := Aside0.mk (Kd.S_lower ho2 (below_size (bl_ HB.out)))
          have n3_ := Aside0.mk (blk_below (bk_ BK550.out) hb)
          have n4_ := Aside0.mk (blk_below (bk_ BK551.out) hb)
          have n5_ := Aside0.mk (blk_below (bk_ BK583.out) hb)
          have n6_ := Aside0.mk (below_step (bl_ HB.out) hb)
          clear BK550 BK551 BK583 HB
          have HO573 := n0_
          have HO576 := n1_
          have HO579 := n2_
          have BK550 := n3_
          have BK551 := n4_
          have BK583 := n5_
          have HB := n6_
          clear n0_ n1_ n2_ n3_ n4_ n5_ n6_
          (try clear hb)
          (try clear hb2)
          (try clear hk)
          (try clear hi)
          (try clear ho0)
          (try clear ho1)
          (try clear ho2)
          obtain ⟨Ao44, co44, eo44⟩ := Kd.R_slice HO573.out
          (first | subst eo44 | (injection eo44 with f1_ f2_ f3_; have f4_ := f1_.symm; have f5_ := f3_.symm; clear f1_ f2_ f3_; subst f4_; subst f5_))
          obtain ⟨Ao45, co45, eo45⟩ := Kd.R_slice HO576.out
          (first | subst eo45 | (injection eo45 with f1_ f2_ f3_; have f4_ := f1_.symm; have f5_ := f3_.symm; clear f1_ f2_ f3_; subst f4_; subst f5_))
          obtain ⟨Ao46, co46, eo46⟩ := Kd.S_slice HO579.out
          (first | subst eo46 | (injection eo46 with f1_ f2_ f3_; have f4_ := f1_.symm; have f5_ := f3_.symm; clear f1_ f2_ f3_; subst f4_; subst f5_))
          refine hK.out _ _ ⟨(blk_cell BK550.out 0).trans rfl, (blk_cell BK550.out 1).trans rfl, (blk_cell BK550.out 2).trans rfl, (blk_cell BK551.out 0).trans rfl, (blk_cell BK551.out 1).trans rfl, (blk_cell BK551.out 2).trans rfl, (blk_cell BK551.out 3).trans rfl⟩ (fun hHeld => ?_)
          clear hK K
          refine norm_ (a' := ?_) ?_ ?_
          rotate_left
          ·
           show Act.put _ (some 65) _ = _
           simp only [Act.put, List.setIfInBounds_toArray, List.set_cons_zero, List.set_cons_succ, i64_w, i32_w]
           rfl
          refine one_ (i := 6) (N := some 70) #[true, true, true, true, true, true, true, false, false, false, true, false, false] rfl rfl (one_of HT_.out (by kernel_rfl)) (by decide) (fun K hK => ?_)
          refine goes_ Try.func30 (by kernel_rfl) rfl #[.agg #[.slice Ao44 t571.length co44, .slice Ao45 t574.length co45, .slice Ao46 t577.length co46], .agg #[.int .i64 a1_0, .int .i64 a1_1], .agg #[.int .i64 a1_2, .int .i64 a1_3]] (by rfl) rfl rfl (by (try simp only [List.map_toArray, List.map_cons, List.map_nil]); first | done | rfl | (simp only [List.length_drop, List.length_take]; rfl)) ?_
          with_reducible refine (spans_Bound.calls _ _ t571 _ _ t574 _ _ t577 a1_0 a1_1 a1_2 a1_3 t580 t581 t582 _ ?side1 ?side2 ?side3 ?side4 ?side5 ?side6 A36.out).mono ?_
          (case side1 => exact cr_ (Kd.R_reads' HO573.out).2.2)
          (case side2 => exact (Kd.R_reads' HO573.out).2.1)
          (case side3 => exact cr_ (Kd.R_reads' HO576.out).2.2)
          (case side4 => exact (Kd.R_reads' HO576.out).2.1)
          (case side5 => exact cr_ (Kd.S_reads' HO579.out).2.2)
          (case side6 => exact (Kd.S_reads' HO579.out).2.1)
          rintro e w47 ⟨rfl, hb⟩
          refine ⟨_, rfl, ?_⟩
          have n0_ := Aside0.mk (Kd.R_below (by (with_reducible repeat (first | apply Kd.R_alloc | apply Kd.R_drewN | apply Kd.R_drew)); exact HO573.out) hb)
          have n1_ := Aside0.mk (Kd.R_below (by (with_reducible repeat (first | apply Kd.R_alloc | apply Kd.R_drewN | apply Kd.R_drew)); exact HO576.out) hb)
          have n2_ := Aside0.mk (Kd.S_below (by (with_reducible repeat (first | apply Kd.S_alloc | apply Kd.S_drewN | apply Kd.S_drew)); exact HO579.out) hb)
          have n3_ := Aside0.mk (blk_below (bk_ BK550.out) hb)
          have n4_ := Aside0.mk (blk_below (bk_ BK551.out) hb)
          have n5_ := Aside0.mk (blk_below (bk_ BK583.out) hb)
          have n6_ := Aside0.mk (below_step (bl_ HB.out) hb)
          clear HO573 HO576 HO579 BK550 BK551 BK583 HB
          have HO573 := n0_
          have HO576 := n1_
          have HO579 := n2_
          have BK550 := n3_
          have BK551 := n4_
          have BK583 := n5_
          have HB := n6_
          clear n0_ n1_ n2_ n3_ n4_ n5_ n6_
          (try clear hb)
          (try clear hb2)
          (try clear hk)
          (try clear hi)
          refine hK.out _ _ ⟨(blk_cell BK550.out 0).trans rfl, (blk_cell BK550.out 1).trans rfl, (blk_cell BK550.out 2).trans rfl, (blk_cell BK551.out 0).trans rfl, (blk_cell BK551.out 1).trans rfl, (blk_cell BK551.out 2).trans rfl, (blk_cell BK551.out 3).trans rfl⟩ (fun hHeld => ?_)
          clear hK K
          refine norm_ (a' := ?_) ?_ ?_
          rotate_left
          ·
           show Act.put _ (some 70) _ = _
           simp only [Act.put, List.setIfInBounds_toArray, List.set_cons_zero, List.set_cons_succ, i64_w, i32_w]
           rfl
          refine pure_ (i := 7) (N := some 63) (v := ?_) (a' := ?_) #[true, true, true, true, true, true, true, true, false, false, true, false, false] rfl rfl (any_of HT_.out (by kernel_rfl)) (fun _ _ _ h => h) (Or.inl ⟨by rfl, ?_⟩) ?_ ?_
          rotate_left
          ·
           intro w'
           go_simp
           with_reducible rfl
          rotate_left
          ·
           simp only [Act.put, List.setIfInBounds_toArray, List.set_cons_zero, List.set_cons_succ, i64_w, i32_w]
           rfl
          refine pure_ (i := 8) (N := some 71) (v := ?_) (a' := ?_) #[true, true, true, true, true, true, true, true, true, false, true, false, false] rfl rfl (any_of HT_.out (by kernel_rfl)) (fun _ _ _ h => h) (Or.inl ⟨by rfl, ?_⟩) ?_ ?_
          rotate_left
          ·
           intro w'
           go_simp
           with_reducible rfl
          rotate_left
          ·
           simp only [Act.put, List.setIfInBounds_toArray, List.set_cons_zero, List.set_cons_succ, i64_w, i32_w]
           rfl
          refine pure_ (i := 9) (N := some 72) (v := ?_) (a' := ?_) #[true, true, true, true, true, true, true, true, true, true, true, false, false] rfl rfl (any_of HT_.out (by kernel_rfl)) (fun _ _ _ h => h) (Or.inl ⟨by rfl, ?_⟩) ?_ ?_
          rotate_left
          ·
           intro w'
           go_simp
           with_reducible rfl
          rotate_left
          ·
           simp only [Act.put, List.setIfInBounds_toArray, List.set_cons_zero, List.set_cons_succ, i64_w, i32_w]
           rfl
          exact norm_ (by simp only [putAll, Act.put, List.setIfInBounds_toArray, List.set_cons_zero, List.set_cons_succ]) (hCont (.slice Ao44 t571.length co44, .slice Ao45 t574.length co45, .slice Ao46 t577.length co46, gb583) _ ⟨hHeld, (by (with_reducible repeat (first | apply Kd.R_alloc | apply Kd.R_drewN | apply Kd.R_drew)); exact HO573.out), (by (with_reducible repeat (first | apply Kd.R_alloc | apply Kd.R_drewN | apply Kd.R_drew)); exact HO576.out), (by (with_reducible repeat (first | apply Kd.S_alloc | apply Kd.S_drewN | apply Kd.S_drew)); exact HO579.out), (bk_ BK550.out), (bk_ BK551.out), (bk_ BK583.out), GW583.out, GE583.out, NB550_583.out, NB583_550.out, NB551_583.out, NB583_551.out, (bl_ HB.out)⟩)
        rintro ⟨v572, v575, v578, gb583⟩ w48 ⟨hS_, h0_, h1_, h2_, h3_, h4_, h5_, h6_, h7_, h8_, h9_, h10_, h11_, h12_⟩
        have n0_ : Aside0 (Kd.R (Kd.int .i64) 3 w48 w.heap.size (fun k_ => some k_ ≠ (v575 : Value).ownBlock) v572 t571) := ⟨h0_⟩
        have n1_ : Aside0 (Kd.R (Kd.int .i64) 3 w48 w.heap.size (fun k_ => some k_ ≠ (v572 : Value).ownBlock) v575 t574) := ⟨h1_⟩
        have n2_ : Aside0 (Kd.S (Kd.slice 3 (Kd.int .i64)) 22 w48 w.heap.size (fun k_ => some k_ ≠ (v572 : Value).ownBlock ∧ some k_ ≠ (v575 : Value).ownBlock) v578 t577) := ⟨h2_⟩
        have n3_ : Aside0 (w48.heap[gb550]? = some (.cells #[.slice A0_0 l0_0.length c0_0, .slice A0_1 l0_1.length c0_1, .slice A0_2 l0_2.length c0_2] 25 (0, 0))) := ⟨h3_⟩
        have n4_ : Aside0 (w48.heap[gb551]? = some (.cells #[.int .i64 a1_0, .int .i64 a1_1, .int .i64 a1_2, .int .i64 a1_3] 43 (0, 0))) := ⟨h4_⟩
        have n5_ : Aside0 (w48.heap[gb583]? = some (.cells #[.int .i64 0, .int .i64 0] 27 (0, 0))) := ⟨h5_⟩
        have n6_ : Aside0 (w.heap.size ≤ gb583) := ⟨h6_⟩
        have n7_ : Aside0 (w.heap.size ≤ gb583) := ⟨h7_⟩
        have n8_ : Aside0 (gb550 ≠ gb583) := ⟨h8_⟩
        have n9_ : Aside0 (gb583 ≠ gb550) := ⟨h9_⟩
        have n10_ : Aside0 (gb551 ≠ gb583) := ⟨h10_⟩
        have n11_ : Aside0 (gb583 ≠ gb551) := ⟨h11_⟩
        have n12_ : Aside0 (Below w.heap.size w w48) := ⟨h12_⟩
        clear BK550 BK551 HB h0_ h1_ h2_ h3_ h4_ h5_ h6_ h7_ h8_ h9_ h10_ h11_ h12_
        have HO573 := n0_
        have HO576 := n1_
        have HO579 := n2_
        have BK550 := n3_
        have BK551 := n4_
        have BK583 := n5_
        have GW583 := n6_
        have GE583 := n7_
        have NB550_583 := n8_
        have NB583_550 := n9_
        have NB551_583 := n10_
        have NB583_551 := n11_
        have HB := n12_
        clear n0_ n1_ n2_ n3_ n4_ n5_ n6_ n7_ n8_ n9_ n10_ n11_ n12_
        have hHeld : w48.cell? ⟨gb550, 0, none⟩ = some (.slice A0_0 l0_0.length c0_0) ∧ w48.cell? ⟨gb550, 1, none⟩ = some (.slice A0_1 l0_1.length c0_1) ∧ w48.cell? ⟨gb550, 2, none⟩ = some (.slice A0_2 l0_2.length c0_2) ∧ w48.cell? ⟨gb551, 0, none⟩ = some (.int .i64 a1_0) ∧ w48.cell? ⟨gb551, 1, none⟩ = some (.int .i64 a1_1) ∧ w48.cell? ⟨gb551, 2, none⟩ = some (.int .i64 a1_2) ∧ w48.cell? ⟨gb551, 3, none⟩ = some (.int .i64 a1_3) := hS_
        refine norm_ (a' := ?_) ?_ ?_
        rotate_left
        ·
         simp only [putAll, Act.put, List.setIfInBounds_toArray, List.set_cons_zero, List.set_cons_succ]
         rfl
        refine one_ (i := 11) (N := none) #[true, true, true, true, true, true, true, true, true, true, true, true, false] rfl rfl (one_of HT_.out (by kernel_rfl)) (by decide) (fun K hK => ?_)
        have hs49 : w48.cell? ⟨gb583, 0, none⟩ = some (.int .i64 0) := (blk_cell BK583.out 0).trans rfl
        have hfs49 := blk_frozen BK583.out 0
        have hns49_0 := NB550_583.out
        have hns49_1 := NB551_583.out
        have hms49_0 := NB583_550.out
        have hms49_1 := NB583_551.out
        have hs50 : w48.cell? ⟨gb583, 1, none⟩ = some (.int .i64 0) := (blk_cell BK583.out 1).trans rfl
        have hfs50 := blk_frozen BK583.out 1
        have hns50_0 := NB550_583.out
        have hns50_1 := NB551_583.out
        have hms50_0 := NB583_550.out
        have hms50_1 := NB583_551.out
        refine skip_ (w1 := ?_) (by rfl) rfl ?_ ?_
        rotate_left
        ·
         go_simp
         rfl
        refine hK.out _ _ ⟨((cell_far (p := ⟨gb583, _, none⟩) NB550_583.out _).trans (((cell_far (p := ⟨gb583, _, none⟩) NB550_583.out _).trans (hHeld.1)))), ((cell_far (p := ⟨gb583, _, none⟩) NB550_583.out _).trans (((cell_far (p := ⟨gb583, _, none⟩) NB550_583.out _).trans (hHeld.2.1)))), ((cell_far (p := ⟨gb583, _, none⟩) NB550_583.out _).trans (((cell_far (p := ⟨gb583, _, none⟩) NB550_583.out _).trans (hHeld.2.2.1)))), ((cell_far (p := ⟨gb583, _, none⟩) NB551_583.out _).trans (((cell_far (p := ⟨gb583, _, none⟩) NB551_583.out _).trans (hHeld.2.2.2.1)))), ((cell_far (p := ⟨gb583, _, none⟩) NB551_583.out _).trans (((cell_far (p := ⟨gb583, _, none⟩) NB551_583.out _).trans (hHeld.2.2.2.2.1)))), ((cell_far (p := ⟨gb583, _, none⟩) NB551_583.out _).trans (((cell_far (p := ⟨gb583, _, none⟩) NB551_583.out _).trans (hHeld.2.2.2.2.2.1)))), ((cell_far (p := ⟨gb583, _, none⟩) NB551_583.out _).trans (((cell_far (p := ⟨gb583, _, none⟩) NB551_583.out _).trans (hHeld.2.2.2.2.2.2))))⟩ (fun hHeld => ?_)
        clear hK K
        refine pure_ (i := 12) (N := some 16) (v := ?_) (a' := ?_) #[true, true, true, true, true, true, true, true, true, true, true, true, true] rfl rfl (any_of HT_.out (by kernel_rfl)) (fun _ _ _ h => h) (Or.inl ⟨by rfl, ?_⟩) ?_ ?_
        rotate_left
        ·
         intro w'
         go_simp
         with_reducible rfl
        rotate_left
        ·
         simp only [Act.put, List.setIfInBounds_toArray, List.set_cons_zero, List.set_cons_succ, i64_w, i32_w]
         rfl
        refine done_ (done_of HT_.out (by kernel_rfl)) ?_
        have hnb51 := NB583_550.out
        have hnc51 := NB550_583.out
        have hnb52 := NB583_551.out
        have hnc52 := NB551_583.out
        have hcz53_0 : w48.cell? ⟨gb583, 0, none⟩ = some (.int .i64 0) := (blk_cell BK583.out 0).trans rfl
        have hcz53_1 : w48.cell? ⟨gb583, 1, none⟩ = some (.int .i64 0) := (blk_cell BK583.out 1).trans rfl
        have hfz53_0 := blk_frozen BK583.out 0
        have hfz53_1 := blk_frozen BK583.out 1
        try go_wp2_with (first | (go_at_call 22; (with_reducible refine (swashplatelaw01_works.calls kj15  t584 _ A40.out).mono ?_); rintro e w54 ⟨rfl, hb⟩; have n0_ := Aside0.mk (Kd.R_below (by (with_reducible repeat (first | apply Kd.R_alloc | apply Kd.R_drewN | apply Kd.R_drew)); exact (Kd.R_mono (Kd.R_far (p := ⟨gb583, 1, none⟩) (Kd.R_far (p := ⟨gb583, 0, none⟩) (Kd.R_types HO573.out BK583.out (by decide)) (fun _ hk => hk.2) (.int .i64 t580)) (fun _ hk => hk.2) (.int .i64 t581)) (fun _ h_ => h_.1))) hb); have n1_ := Aside0.mk (Kd.R_below (by (with_reducible repeat (first | apply Kd.R_alloc | apply Kd.R_drewN | apply Kd.R_drew)); exact (Kd.R_mono (Kd.R_far (p := ⟨gb583, 1, none⟩) (Kd.R_far (p := ⟨gb583, 0, none⟩) (Kd.R_types HO576.out BK583.out (by decide)) (fun _ hk => hk.2) (.int .i64 t580)) (fun _ hk => hk.2) (.int .i64 t581)) (fun _ h_ => h_.1))) hb); have n2_ := Aside0.mk (Kd.S_below (by (with_reducible repeat (first | apply Kd.S_alloc | apply Kd.S_drewN | apply Kd.S_drew)); exact (Kd.S_mono (Kd.S_far (p := ⟨gb583, 1, none⟩) (Kd.S_far (p := ⟨gb583, 0, none⟩) (Kd.S_types HO579.out BK583.out (by decide)) (fun _ hk => hk.2) (.int .i64 t580)) (fun _ hk => hk.2) (.int .i64 t581)) (fun _ h_ => h_.1))) hb); have n3_ := Aside0.mk (blk_below (g := gb550) (o := .cells #[.slice A0_0 l0_0.length c0_0, .slice A0_1 l0_1.length c0_1, .slice A0_2 l0_2.length c0_2] 25 (0, 0)) (by (with_reducible repeat (first | refine blk_drewN ?_ _ | refine blk_drew ?_ | refine blk_alloc ?_ _)); refine blk_far ?_ NB550_583.out _; (with_reducible repeat (first | refine blk_drewN ?_ _ | refine blk_drew ?_ | refine blk_alloc ?_ _)); refine blk_far ?_ NB550_583.out _; (with_reducible repeat (first | refine blk_drewN ?_ _ | refine blk_drew ?_ | refine blk_alloc ?_ _)); exact BK550.out) hb); have n4_ := Aside0.mk (blk_below (g := gb551) (o := .cells #[.int .i64 a1_0, .int .i64 a1_1, .int .i64 a1_2, .int .i64 a1_3] 43 (0, 0)) (by (with_reducible repeat (first | refine blk_drewN ?_ _ | refine blk_drew ?_ | refine blk_alloc ?_ _)); refine blk_far ?_ NB551_583.out _; (with_reducible repeat (first | refine blk_drewN ?_ _ | refine blk_drew ?_ | refine blk_alloc ?_ _)); refine blk_far ?_ NB551_583.out _; (with_reducible repeat (first | refine blk_drewN ?_ _ | refine blk_drew ?_ | refine blk_alloc ?_ _)); exact BK551.out) hb); have n5_ := Aside0.mk (blk_below (g := gb583) (o := .cells #[.int .i64 t580, .int .i64 t581] 27 (0, 0)) (by (with_reducible repeat (first | refine blk_drewN ?_ _ | refine blk_drew ?_ | refine blk_alloc ?_ _)); refine blk_put (cs := #[.int .i64 t580, .int .i64 0]) ?_ 1 _ rfl; (with_reducible repeat (first | refine blk_drewN ?_ _ | refine blk_drew ?_ | refine blk_alloc ?_ _)); refine blk_put (cs := #[.int .i64 0, .int .i64 0]) ?_ 0 _ rfl; (with_reducible repeat (first | refine blk_drewN ?_ _ | refine blk_drew ?_ | refine blk_alloc ?_ _)); exact BK583.out) hb); have n6_ := Aside0.mk (below_step (bl_ HB.out) hb); clear HO573 HO576 HO579 BK550 BK551 BK583 HB; have HO573 := n0_; have HO576 := n1_; have HO579 := n2_; have BK550 := n3_; have BK551 := n4_; have BK583 := n5_; have HB := n6_; clear n0_ n1_ n2_ n3_ n4_ n5_ n6_; (try clear hb); (try clear hb2); (try clear hk); (try clear hi)))
        go_ret
        exact ⟨by first | rfl | (simp [errW_none, errW_some] <;> rfl) | (simp [*, errW_none, errW_some] <;> rfl), bl_ HB.out⟩
       ·
        rw [if_neg c39] at H
        have c39b0 : (t565 == (decide (t581 ≤ a2))) = false := by simpa using c39
        (try (have c39b1 : decide (t565 = (decide (t581 ≤ a2))) = false := by simpa using c39))
        (try (have c39b2 : (t565 == (decide (t581 ≤ a2))) = false := by simpa using c39))
        (try (have c39b3 : ¬ (t565 = (decide (t581 ≤ a2))) := by simpa using c39))
        clear c39
        exact absurd ((Option.some.inj H).trans hrT.out) (by decide)
      ·
       rw [if_neg c38] at H
       have c38b0 : (t566 == 0) = false := beq_eq_false_iff_ne.mpr c38
       have c38b1 : (t566 != 0) = true := bne_iff_ne.mpr c38
       replace H := Option.bind_eq_some_iff.mp H
       obtain ⟨t585, A680, H⟩ := H
       replace H : (some t585) = some r := H
       have A68 := Aside0.mk A680
       clear A680
       obtain rfl := Option.some.inj H
       try go_wp2
       have n0_ := Aside0.mk (blk_drew BK550.out)
       have n1_ := Aside0.mk (blk_drew BK551.out)
       have n2_ := Aside0.mk (below_drew1 HB.out)
       clear BK550 BK551 HB
       have BK550 := n0_
       have BK551 := n1_
       have HB := n2_
       clear n0_ n1_ n2_
       refine start_ (n := 13) (S := fun w' => w'.cell? ⟨gb550, 0, none⟩ = some (.slice A0_0 l0_0.length c0_0) ∧ w'.cell? ⟨gb550, 1, none⟩ = some (.slice A0_1 l0_1.length c0_1) ∧ w'.cell? ⟨gb550, 2, none⟩ = some (.slice A0_2 l0_2.length c0_2) ∧ w'.cell? ⟨gb551, 0, none⟩ = some (.int .i64 a1_0) ∧ w'.cell? ⟨gb551, 1, none⟩ = some (.int .i64 a1_1) ∧ w'.cell? ⟨gb551, 2, none⟩ = some (.int .i64 a1_2) ∧ w'.cell? ⟨gb551, 3, none⟩ = some (.int .i64 a1_3)) (ds := []) #[false, false, false, false, false, false, false, false, false, false, false, false, false] (by kernel_rfl) rfl rfl ⟨(blk_cell BK550.out 0).trans rfl, (blk_cell BK550.out 1).trans rfl, (blk_cell BK550.out 2).trans rfl, (blk_cell BK551.out 0).trans rfl, (blk_cell BK551.out 1).trans rfl, (blk_cell BK551.out 2).trans rfl, (blk_cell BK551.out 3).trans rfl⟩ (fun hHeld => ?_); refine with_tabW swashplatelaw01_SpansBelow.tab7 swashplatelaw01_SpansBelow.bits7 (fun HT_ HW_ => ?_)
       generalize wc.drew = w69 at BK550 BK551 HB hHeld ⊢
       refine pure_ (i := 2) (N := some 66) (v := ?_) (a' := ?_) #[false, false, true, false, false, false, false, false, false, false, false, false, false] rfl rfl (any_of HT_.out (by kernel_rfl)) (fun _ _ _ h => h) (Or.inl ⟨by rfl, ?_⟩) ?_ ?_
       rotate_left
       ·
        intro w'
        go_simp
        with_reducible rfl
       rotate_left
       ·
        simp only [Act.put, List.setIfInBounds_toArray, List.set_cons_zero, List.set_cons_succ, i64_w, i32_w]
        rfl
       refine pure_ (i := 4) (N := some 68) (v := ?_) (a' := ?_) #[false, false, true, false, true, false, false, false, false, false, false, false, false] rfl rfl (any_of HT_.out (by kernel_rfl)) (fun _ _ _ h => h) (Or.inl ⟨by rfl, ?_⟩) ?_ ?_
       rotate_left
       ·
        intro w'
        go_simp
        with_reducible rfl
       rotate_left
       ·
        simp only [Act.put, List.setIfInBounds_toArray, List.set_cons_zero, List.set_cons_succ, i64_w, i32_w]
        rfl
       refine take_ (i := 0) (N := some 64) (v := ?_) (a' := ?_) #[true, false, true, false, true, false, false, false, false, false, false, false, false] rfl rfl (take_ofW HT_.out HW_.out (by kernel_rfl)) (fun _ _ _ h => h) (Or.inl ⟨by rfl, ?_⟩) hHeld ?_ ?_
       rotate_left
       ·
        rintro w' ⟨s0, s1, s2, s3, s4, s5, s6⟩
        go_simp
        with_reducible rfl
       rotate_left
       ·
        simp only [Act.put, List.setIfInBounds_toArray, List.set_cons_zero, List.set_cons_succ, i64_w, i32_w]
        rfl
       refine take_ (i := 3) (N := some 67) (v := ?_) (a' := ?_) #[true, false, true, true, true, false, false, false, false, false, false, false, false] rfl rfl (take_ofW HT_.out HW_.out (by kernel_rfl)) (fun _ _ _ h => h) (Or.inl ⟨by rfl, ?_⟩) hHeld ?_ ?_
       rotate_left
       ·
        rintro w' ⟨s0, s1, s2, s3, s4, s5, s6⟩
        go_simp
        with_reducible rfl
       rotate_left
       ·
        simp only [Act.put, List.setIfInBounds_toArray, List.set_cons_zero, List.set_cons_succ, i64_w, i32_w]
        rfl
       refine take_ (i := 5) (N := some 69) (v := ?_) (a' := ?_) #[true, false, true, true, true, true, false, false, false, false, false, false, false] rfl rfl (take_ofW HT_.out HW_.out (by kernel_rfl)) (fun _ _ _ h => h) (Or.inl ⟨by rfl, ?_⟩) hHeld ?_ ?_
       rotate_left
       ·
        rintro w' ⟨s0, s1, s2, s3, s4, s5, s6⟩
        go_simp
        with_reducible rfl
       rotate_left
       ·
        simp only [Act.put, List.setIfInBounds_toArray, List.set_cons_zero, List.set_cons_succ, i64_w, i32_w]
        rfl
       refine join_ (σ := Value × Value × Value × Nat) 2 #[true, true, true, true, true, true, true, true, true, true, true, false, false] (fun s_ => [(65, .agg #[s_.1, s_.2.1, s_.2.2.1]), (70, .tuple #[.agg #[.int .i64 t580, .int .i64 t581], .int .i64 t582]), (15, .pointer (some ⟨s_.2.2.2, 0, none⟩)), (63, .tuple #[.agg #[.int .i64 t580, .int .i64 t581], .int .i64 t582]), (71, .agg #[.int .i64 t580, .int .i64 t581]), (72, .int .i64 t582)]) (fun s_ w' => (w'.cell? ⟨gb550, 0, none⟩ = some (.slice A0_0 l0_0.length c0_0) ∧ w'.cell? ⟨gb550, 1, none⟩ = some (.slice A0_1 l0_1.length c0_1) ∧ w'.cell? ⟨gb550, 2, none⟩ = some (.slice A0_2 l0_2.length c0_2) ∧ w'.cell? ⟨gb551, 0, none⟩ = some (.int .i64 a1_0) ∧ w'.cell? ⟨gb551, 1, none⟩ = some (.int .i64 a1_1) ∧ w'.cell? ⟨gb551, 2, none⟩ = some (.int .i64 a1_2) ∧ w'.cell? ⟨gb551, 3, none⟩ = some (.int .i64 a1_3)) ∧ (Kd.R (Kd.int .i64) 3 w' w.heap.size (fun k_ => some k_ ≠ (s_.2.1 : Value).ownBlock) s_.1 t571) ∧ (Kd.R (Kd.int .i64) 3 w' w.heap.size (fun k_ => some k_ ≠ (s_.1 : Value).ownBlock) s_.2.1 t574) ∧ (Kd.S (Kd.slice 3 (Kd.int .i64)) 22 w' w.heap.size (fun k_ => some k_ ≠ (s_.1 : Value).ownBlock ∧ some k_ ≠ (s_.2.1 : Value).ownBlock) s_.2.2.1 t577) ∧ (w'.heap[gb550]? = some (.cells #[.slice A0_0 l0_0.length c0_0, .slice A0_1 l0_1.length c0_1, .slice A0_2 l0_2.length c0_2] 25 (0, 0))) ∧ (w'.heap[gb551]? = some (.cells #[.int .i64 a1_0, .int .i64 a1_1, .int .i64 a1_2, .int .i64 a1_3] 43 (0, 0))) ∧ (w'.heap[s_.2.2.2]? = some (.cells #[.int .i64 0, .int .i64 0] 27 (0, 0))) ∧ (w.heap.size ≤ s_.2.2.2) ∧ (w.heap.size ≤ s_.2.2.2) ∧ (gb550 ≠ s_.2.2.2) ∧ (s_.2.2.2 ≠ gb550) ∧ (gb551 ≠ s_.2.2.2) ∧ (s_.2.2.2 ≠ gb551) ∧ (Below w.heap.size w w')) ?_ ?_
       rotate_left
       ·
        intro hCont
        refine two_ (i := 1) (j := 10) (Ni := some 65) (Nj := some 15) #[true, true, true, true, true, true, false, false, false, false, false, false, false] #[true, false, true, true, true, true, false, false, false, false, true, false, false] rfl rfl rfl rfl (two_of HT_.out (by kernel_rfl)) (by decide) (by decide) (fun K hK => ?_) (fun K hK => ?_)
        ·
         skip
         refine goes_ Try.func24 (by kernel_rfl) rfl #[.agg #[.slice A0_0 l0_0.length c0_0, .slice A0_1 l0_1.length c0_1, .slice A0_2 l0_2.length c0_2]] (by rfl) rfl rfl (by (try simp only [List.map_toArray, List.map_cons, List.map_nil]); first | done | rfl | (simp only [List.length_drop, List.length_take]; rfl)) ?_
         with_reducible refine (swashplateref01_Copy.calls kj15 _ _ l0_0 _ _ l0_1 _ _ l0_2 t571 t574 t577 _ ?side1 ?side2 ?side3 ?side4 ?side5 ?side6 A35.out).mono ?_
         (case side1 => exact cr_ (Kd.C_below HR0_0.out HB.out))
         (case side2 => exact HC0_0.out)
         (case side3 => exact cr_ (Kd.C_below HR0_1.out HB.out))
         (case side4 => exact HC0_1.out)
         (case side5 => exact cr_ (Kd.C_below HR0_2.out HB.out))
         (case side6 => exact HC0_2.out)
         rintro e w70 ⟨v572, v575, v578, rfl, ho0, ho1, ho2, hb⟩
         refine ⟨_, rfl, ?_⟩
         have n0_ := Aside0.mk (Kd.R_lower ho0 (below_size (bl_ HB.out)))
         have n1_ := Aside0.mk (Kd.R_lower ho1 (below_size (bl_ HB.out)))
         have n2_ := Aside0.mk (Kd.S_lower ho2 (below_size (bl_ HB.out)))
         have n3_ := Aside0.mk (blk_below (bk_ BK550.out) hb)
         have n4_ := Aside0.mk (blk_below (bk_ BK551.out) hb)
         have n5_ := Aside0.mk (below_step (bl_ HB.out) hb)
         clear BK550 BK551 HB
         have HO573 := n0_
         have HO576 := n1_
         have HO579 := n2_
         have BK550 := n3_
         have BK551 := n4_
         have HB := n5_
         clear n0_ n1_ n2_ n3_ n4_ n5_
         (try clear hb)
         (try clear hb2)
         (try clear hk)
         (try clear hi)
         (try clear ho0)
         (try clear ho1)
         (try clear ho2)
         obtain ⟨Ao71, co71, eo71⟩ := Kd.R_slice HO573.out
         (first | subst eo71 | (injection eo71 with f1_ f2_ f3_; have f4_ := f1_.symm; have f5_ := f3_.symm; clear f1_ f2_ f3_; subst f4_; subst f5_))
         obtain ⟨Ao72, co72, eo72⟩ := Kd.R_slice HO576.out
         (first | subst eo72 | (injection eo72 with f1_ f2_ f3_; have f4_ := f1_.symm; have f5_ := f3_.symm; clear f1_ f2_ f3_; subst f4_; subst f5_))
         obtain ⟨Ao73, co73, eo73⟩ := Kd.S_slice HO579.out
         (first | subst eo73 | (injection eo73 with f1_ f2_ f3_; have f4_ := f1_.symm; have f5_ := f3_.symm; clear f1_ f2_ f3_; subst f4_; subst f5_))
         refine hK.out _ _ ⟨(blk_cell BK550.out 0).trans rfl, (blk_cell BK550.out 1).trans rfl, (blk_cell BK550.out 2).trans rfl, (blk_cell BK551.out 0).trans rfl, (blk_cell BK551.out 1).trans rfl, (blk_cell BK551.out 2).trans rfl, (blk_cell BK551.out 3).trans rfl⟩ (fun hHeld => ?_)
         clear hK K
         refine norm_ (a' := ?_) ?_ ?_
         rotate_left
         ·
          show Act.put _ (some 65) _ = _
          simp only [Act.put, List.setIfInBounds_toArray, List.set_cons_zero, List.set_cons_succ, i64_w, i32_w]
          rfl
         refine two_ (i := 6) (j := 10) (Ni := some 70) (Nj := some 15) #[true, true, true, true, true, true, true, false, false, false, false, false, false] #[true, true, true, true, true, true, false, false, false, false, true, false, false] rfl rfl rfl rfl (two_of HT_.out (by kernel_rfl)) (by decide) (by decide) (fun K hK => ?_) (fun K hK => ?_)
         ·
          skip
          refine goes_ Try.func30 (by kernel_rfl) rfl #[.agg #[.slice Ao71 t571.length co71, .slice Ao72 t574.length co72, .slice Ao73 t577.length co73], .agg #[.int .i64 a1_0, .int .i64 a1_1], .agg #[.int .i64 a1_2, .int .i64 a1_3]] (by rfl) rfl rfl (by (try simp only [List.map_toArray, List.map_cons, List.map_nil]); first | done | rfl | (simp only [List.length_drop, List.length_take]; rfl)) ?_
          with_reducible refine (spans_Bound.calls _ _ t571 _ _ t574 _ _ t577 a1_0 a1_1 a1_2 a1_3 t580 t581 t582 _ ?side1 ?side2 ?side3 ?side4 ?side5 ?side6 A36.out).mono ?_
          (case side1 => exact cr_ (Kd.R_reads' HO573.out).2.2)
          (case side2 => exact (Kd.R_reads' HO573.out).2.1)
          (case side3 => exact cr_ (Kd.R_reads' HO576.out).2.2)
          (case side4 => exact (Kd.R_reads' HO576.out).2.1)
          (case side5 => exact cr_ (Kd.S_reads' HO579.out).2.2)
          (case side6 => exact (Kd.S_reads' HO579.out).2.1)
          rintro e w74 ⟨rfl, hb⟩
          refine ⟨_, rfl, ?_⟩
          have n0_ := Aside0.mk (Kd.R_below (by (with_reducible repeat (first | apply Kd.R_alloc | apply Kd.R_drewN | apply Kd.R_drew)); exact HO573.out) hb)
          have n1_ := Aside0.mk (Kd.R_below (by (with_reducible repeat (first | apply Kd.R_alloc | apply Kd.R_drewN | apply Kd.R_drew)); exact HO576.out) hb)
          have n2_ := Aside0.mk (Kd.S_below (by (with_reducible repeat (first | apply Kd.S_alloc | apply Kd.S_drewN | apply Kd.S_drew)); exact HO579.out) hb)
          have n3_ := Aside0.mk (blk_below (bk_ BK550.out) hb)
          have n4_ := Aside0.mk (blk_below (bk_ BK551.out) hb)
          have n5_ := Aside0.mk (below_step (bl_ HB.out) hb)
          clear HO573 HO576 HO579 BK550 BK551 HB
          have HO573 := n0_
          have HO576 := n1_
          have HO579 := n2_
          have BK550 := n3_
          have BK551 := n4_
          have HB := n5_
          clear n0_ n1_ n2_ n3_ n4_ n5_
          (try clear hb)
          (try clear hb2)
          (try clear hk)
          (try clear hi)
          refine hK.out _ _ ⟨(blk_cell BK550.out 0).trans rfl, (blk_cell BK550.out 1).trans rfl, (blk_cell BK550.out 2).trans rfl, (blk_cell BK551.out 0).trans rfl, (blk_cell BK551.out 1).trans rfl, (blk_cell BK551.out 2).trans rfl, (blk_cell BK551.out 3).trans rfl⟩ (fun hHeld => ?_)
          clear hK K
          refine norm_ (a' := ?_) ?_ ?_
          rotate_left
          ·
           show Act.put _ (some 70) _ = _
           simp only [Act.put, List.setIfInBounds_toArray, List.set_cons_zero, List.set_cons_succ, i64_w, i32_w]
           rfl
          refine pure_ (i := 7) (N := some 63) (v := ?_) (a' := ?_) #[true, true, true, true, true, true, true, true, false, false, false, false, false] rfl rfl (any_of HT_.out (by kernel_rfl)) (fun _ _ _ h => h) (Or.inl ⟨by rfl, ?_⟩) ?_ ?_
          rotate_left
          ·
           intro w'
           go_simp
           with_reducible rfl
          rotate_left
          ·
           simp only [Act.put, List.setIfInBounds_toArray, List.set_cons_zero, List.set_cons_succ, i64_w, i32_w]
           rfl
          refine pure_ (i := 8) (N := some 71) (v := ?_) (a' := ?_) #[true, true, true, true, true, true, true, true, true, false, false, false, false] rfl rfl (any_of HT_.out (by kernel_rfl)) (fun _ _ _ h => h) (Or.inl ⟨by rfl, ?_⟩) ?_ ?_
          rotate_left
          ·
           intro w'
           go_simp
           with_reducible rfl
          rotate_left
          ·
           simp only [Act.put, List.setIfInBounds_toArray, List.set_cons_zero, List.set_cons_succ, i64_w, i32_w]
           rfl
          refine pure_ (i := 9) (N := some 72) (v := ?_) (a' := ?_) #[true, true, true, true, true, true, true, true, true, true, false, false, false] rfl rfl (any_of HT_.out (by kernel_rfl)) (fun _ _ _ h => h) (Or.inl ⟨by rfl, ?_⟩) ?_ ?_
          rotate_left
          ·
           intro w'
           go_simp
           with_reducible rfl
          rotate_left
          ·
           simp only [Act.put, List.setIfInBounds_toArray, List.set_cons_zero, List.set_cons_succ, i64_w, i32_w]
           rfl
          refine one_ (i := 10) (N := some 15) #[true, true, true, true, true, true, true, true, true, true, true, false, false] rfl rfl (one_of HT_.out (by kernel_rfl)) (by decide) (fun K hK => ?_)
          refine box_step ?hg (N := 15) ?hd (cs := #[.int .i64 0, .int .i64 0]) (t := 27) ?hr ?_; (case hd => rfl); (case hg => rfl); (case hr => first | (go_simp; done) | (go_simp; rfl))
          intro gb583 hg w75 hbox hb
          have n0_ := Aside0.mk (Kd.R_below (by (with_reducible repeat (first | apply Kd.R_alloc | apply Kd.R_drewN | apply Kd.R_drew)); exact HO573.out) hb)
          have n1_ := Aside0.mk (Kd.R_below (by (with_reducible repeat (first | apply Kd.R_alloc | apply Kd.R_drewN | apply Kd.R_drew)); exact HO576.out) hb)
          have n2_ := Aside0.mk (Kd.S_below (by (with_reducible repeat (first | apply Kd.S_alloc | apply Kd.S_drewN | apply Kd.S_drew)); exact HO579.out) hb)
          have n3_ := Aside0.mk (blk_below (bk_ BK550.out) hb)
          have n4_ := Aside0.mk (blk_below (bk_ BK551.out) hb)
          have n5_ := Aside0.mk (below_step (bl_ HB.out) hb)
          have n6_ := Aside0.mk (hbox)
          have n7_ := Aside0.mk (szl_ hg HB.out)
          have n8_ := Aside0.mk (szl_ hg HB.out)
          have n9_ := Aside0.mk (nel_ hg BK550.out)
          have n10_ := Aside0.mk (ner_ hg BK550.out)
          have n11_ := Aside0.mk (nel_ hg BK551.out)
          have n12_ := Aside0.mk (ner_ hg BK551.out)
          clear HO573 HO576 HO579 BK550 BK551 HB
          have HO573 := n0_
          have HO576 := n1_
          have HO579 := n2_
          have BK550 := n3_
          have BK551 := n4_
          have HB := n5_
          have BK583 := n6_
          have GW583 := n7_
          have GE583 := n8_
          have NB550_583 := n9_
          have NB583_550 := n10_
          have NB551_583 := n11_
          have NB583_551 := n12_
          clear n0_ n1_ n2_ n3_ n4_ n5_ n6_ n7_ n8_ n9_ n10_ n11_ n12_ hb hbox hg
          refine hK.out _ _ ⟨(blk_cell BK550.out 0).trans rfl, (blk_cell BK550.out 1).trans rfl, (blk_cell BK550.out 2).trans rfl, (blk_cell BK551.out 0).trans rfl, (blk_cell BK551.out 1).trans rfl, (blk_cell BK551.out 2).trans rfl, (blk_cell BK551.out 3).trans rfl⟩ (fun hHeld => ?_)
          clear hK K
          refine norm_ (a' := ?_) ?_ ?_
          rotate_left
          ·
           show Act.put _ (some 15) _ = _
           simp only [Act.put, List.setIfInBounds_toArray, List.set_cons_zero, List.set_cons_succ, i64_w, i32_w]
           rfl
          exact norm_ (by simp only [putAll, Act.put, List.setIfInBounds_toArray, List.set_cons_zero, List.set_cons_succ]) (hCont (.slice Ao71 t571.length co71, .slice Ao72 t574.length co72, .slice Ao73 t577.length co73, gb583) _ ⟨hHeld, (by (with_reducible repeat (first | apply Kd.R_alloc | apply Kd.R_drewN | apply Kd.R_drew)); exact HO573.out), (by (with_reducible repeat (first | apply Kd.R_alloc | apply Kd.R_drewN | apply Kd.R_drew)); exact HO576.out), (by (with_reducible repeat (first | apply Kd.S_alloc | apply Kd.S_drewN | apply Kd.S_drew)); exact HO579.out), (bk_ BK550.out), (bk_ BK551.out), (bk_ BK583.out), GW583.out, GE583.out, NB550_583.out, NB583_550.out, NB551_583.out, NB583_551.out, (bl_ HB.out)⟩)
         ·
          skip
          refine box_step ?hg (N := 15) ?hd (cs := #[.int .i64 0, .int .i64 0]) (t := 27) ?hr ?_; (case hd => rfl); (case hg => rfl); (case hr => first | (go_simp; done) | (go_simp; rfl))
          intro gb583 hg w71 hbox hb
          have n0_ := Aside0.mk (Kd.R_below (by (with_reducible repeat (first | apply Kd.R_alloc | apply Kd.R_drewN | apply Kd.R_drew)); exact HO573.out) hb)
          have n1_ := Aside0.mk (Kd.R_below (by (with_reducible repeat (first | apply Kd.R_alloc | apply Kd.R_drewN | apply Kd.R_drew)); exact HO576.out) hb)
          have n2_ := Aside0.mk (Kd.S_below (by (with_reducible repeat (first | apply Kd.S_alloc | apply Kd.S_drewN | apply Kd.S_drew)); exact HO579.out) hb)
          have n3_ := Aside0.mk (blk_below (bk_ BK550.out) hb)
          have n4_ := Aside0.mk (blk_below (bk_ BK551.out) hb)
          have n5_ := Aside0.mk (below_step (bl_ HB.out) hb)
          have n6_ := Aside0.mk (hbox)
          have n7_ := Aside0.mk (szl_ hg HB.out)
          have n8_ := Aside0.mk (szl_ hg HB.out)
          have n9_ := Aside0.mk (nel_ hg BK550.out)
          have n10_ := Aside0.mk (ner_ hg BK550.out)
          have n11_ := Aside0.mk (nel_ hg BK551.out)
          have n12_ := Aside0.mk (ner_ hg BK551.out)
          clear HO573 HO576 HO579 BK550 BK551 HB
          have HO573 := n0_
          have HO576 := n1_
          have HO579 := n2_
          have BK550 := n3_
          have BK551 := n4_
          have HB := n5_
          have BK583 := n6_
          have GW583 := n7_
          have GE583 := n8_
          have NB550_583 := n9_
          have NB583_550 := n10_
          have NB551_583 := n11_
          have NB583_551 := n12_
          clear n0_ n1_ n2_ n3_ n4_ n5_ n6_ n7_ n8_ n9_ n10_ n11_ n12_ hb hbox hg
          obtain ⟨Ao72, co72, eo72⟩ := Kd.R_slice HO573.out
          (first | subst eo72 | (injection eo72 with f1_ f2_ f3_; have f4_ := f1_.symm; have f5_ := f3_.symm; clear f1_ f2_ f3_; subst f4_; subst f5_))
          obtain ⟨Ao73, co73, eo73⟩ := Kd.R_slice HO576.out
          (first | subst eo73 | (injection eo73 with f1_ f2_ f3_; have f4_ := f1_.symm; have f5_ := f3_.symm; clear f1_ f2_ f3_; subst f4_; subst f5_))
          obtain ⟨Ao74, co74, eo74⟩ := Kd.S_slice HO579.out
          (first | subst eo74 | (injection eo74 with f1_ f2_ f3_; have f4_ := f1_.symm; have f5_ := f3_.symm; clear f1_ f2_ f3_; subst f4_; subst f5_))
          refine hK.out _ _ ⟨(blk_cell BK550.out 0).trans rfl, (blk_cell BK550.out 1).trans rfl, (blk_cell BK550.out 2).trans rfl, (blk_cell BK551.out 0).trans rfl, (blk_cell BK551.out 1).trans rfl, (blk_cell BK551.out 2).trans rfl, (blk_cell BK551.out 3).trans rfl⟩ (fun hHeld => ?_)
          clear hK K
          refine norm_ (a' := ?_) ?_ ?_
          rotate_left
          ·
           show Act.put _ (some 15) _ = _
           simp only [Act.put, List.setIfInBounds_toArray, List.set_cons_zero, List.set_cons_succ, i64_w, i32_w]
           rfl
          refine one_ (i := 6) (N := some 70) #[true, true, true, true, true, true, true, false, false, false, true, false, false] rfl rfl (one_of HT_.out (by kernel_rfl)) (by decide) (fun K hK => ?_)
          refine goes_ Try.func30 (by kernel_rfl) rfl #[.agg #[.slice Ao72 t571.length co72, .slice Ao73 t574.length co73, .slice Ao74 t577.length co74], .agg #[.int .i64 a1_0, .int .i64 a1_1], .agg #[.int .i64 a1_2, .int .i64 a1_3]] (by rfl) rfl rfl (by (try simp only [List.map_toArray, List.map_cons, List.map_nil]); first | done | rfl | (simp only [List.length_drop, List.length_take]; rfl)) ?_
          with_reducible refine (spans_Bound.calls _ _ t571 _ _ t574 _ _ t577 a1_0 a1_1 a1_2 a1_3 t580 t581 t582 _ ?side1 ?side2 ?side3 ?side4 ?side5 ?side6 A36.out).mono ?_
          (case side1 => exact cr_ (Kd.R_reads' HO573.out).2.2)
          (case side2 => exact (Kd.R_reads' HO573.out).2.1)
          (case side3 => exact cr_ (Kd.R_reads' HO576.out).2.2)
          (case side4 => exact (Kd.R_reads' HO576.out).2.1)
          (case side5 => exact cr_ (Kd.S_reads' HO579.out).2.2)
          (case side6 => exact (Kd.S_reads' HO579.out).2.1)
          rintro e w75 ⟨rfl, hb⟩
          refine ⟨_, rfl, ?_⟩
          have n0_ := Aside0.mk (Kd.R_below (by (with_reducible repeat (first | apply Kd.R_alloc | apply Kd.R_drewN | apply Kd.R_drew)); exact HO573.out) hb)
          have n1_ := Aside0.mk (Kd.R_below (by (with_reducible repeat (first | apply Kd.R_alloc | apply Kd.R_drewN | apply Kd.R_drew)); exact HO576.out) hb)
          have n2_ := Aside0.mk (Kd.S_below (by (with_reducible repeat (first | apply Kd.S_alloc | apply Kd.S_drewN | apply Kd.S_drew)); exact HO579.out) hb)
          have n3_ := Aside0.mk (blk_below (bk_ BK550.out) hb)
          have n4_ := Aside0.mk (blk_below (bk_ BK551.out) hb)
          have n5_ := Aside0.mk (blk_below (bk_ BK583.out) hb)
          have n6_ := Aside0.mk (below_step (bl_ HB.out) hb)
          clear HO573 HO576 HO579 BK550 BK551 BK583 HB
          have HO573 := n0_
          have HO576 := n1_
          have HO579 := n2_
          have BK550 := n3_
          have BK551 := n4_
          have BK583 := n5_
          have HB := n6_
          clear n0_ n1_ n2_ n3_ n4_ n5_ n6_
          (try clear hb)
          (try clear hb2)
          (try clear hk)
          (try clear hi)
          refine hK.out _ _ ⟨(blk_cell BK550.out 0).trans rfl, (blk_cell BK550.out 1).trans rfl, (blk_cell BK550.out 2).trans rfl, (blk_cell BK551.out 0).trans rfl, (blk_cell BK551.out 1).trans rfl, (blk_cell BK551.out 2).trans rfl, (blk_cell BK551.out 3).trans rfl⟩ (fun hHeld => ?_)
          clear hK K
          refine norm_ (a' := ?_) ?_ ?_
          rotate_left
          ·
           show Act.put _ (some 70) _ = _
           simp only [Act.put, List.setIfInBounds_toArray, List.set_cons_zero, List.set_cons_succ, i64_w, i32_w]
           rfl
          refine pure_ (i := 7) (N := some 63) (v := ?_) (a' := ?_) #[true, true, true, true, true, true, true, true, false, false, true, false, false] rfl rfl (any_of HT_.out (by kernel_rfl)) (fun _ _ _ h => h) (Or.inl ⟨by rfl, ?_⟩) ?_ ?_
          rotate_left
          ·
           intro w'
           go_simp
           with_reducible rfl
          rotate_left
          ·
           simp only [Act.put, List.setIfInBounds_toArray, List.set_cons_zero, List.set_cons_succ, i64_w, i32_w]
           rfl
          refine pure_ (i := 8) (N := some 71) (v := ?_) (a' := ?_) #[true, true, true, true, true, true, true, true, true, false, true, false, false] rfl rfl (any_of HT_.out (by kernel_rfl)) (fun _ _ _ h => h) (Or.inl ⟨by rfl, ?_⟩) ?_ ?_
          rotate_left
          ·
           intro w'
           go_simp
           with_reducible rfl
          rotate_left
          ·
           simp only [Act.put, List.setIfInBounds_toArray, List.set_cons_zero, List.set_cons_succ, i64_w, i32_w]
           rfl
          refine pure_ (i := 9) (N := some 72) (v := ?_) (a' := ?_) #[true, true, true, true, true, true, true, true, true, true, true, false, false] rfl rfl (any_of HT_.out (by kernel_rfl)) (fun _ _ _ h => h) (Or.inl ⟨by rfl, ?_⟩) ?_ ?_
          rotate_left
          ·
           intro w'
           go_simp
           with_reducible rfl
          rotate_left
          ·
           simp only [Act.put, List.setIfInBounds_toArray, List.set_cons_zero, List.set_cons_succ, i64_w, i32_w]
           rfl
          exact norm_ (by simp only [putAll, Act.put, List.setIfInBounds_toArray, List.set_cons_zero, List.set_cons_succ]) (hCont (.slice Ao72 t571.length co72, .slice Ao73 t574.length co73, .slice Ao74 t577.length co74, gb583) _ ⟨hHeld, (by (with_reducible repeat (first | apply Kd.R_alloc | apply Kd.R_drewN | apply Kd.R_drew)); exact HO573.out), (by (with_reducible repeat (first | apply Kd.R_alloc | apply Kd.R_drewN | apply Kd.R_drew)); exact HO576.out), (by (with_reducible repeat (first | apply Kd.S_alloc | apply Kd.S_drewN | apply Kd.S_drew)); exact HO579.out), (bk_ BK550.out), (bk_ BK551.out), (bk_ BK583.out), GW583.out, GE583.out, NB550_583.out, NB583_550.out, NB551_583.out, NB583_551.out, (bl_ HB.out)⟩)
        ·
         skip
         refine box_step ?hg (N := 15) ?hd (cs := #[.int .i64 0, .int .i64 0]) (t := 27) ?hr ?_; (case hd => rfl); (case hg => rfl); (case hr => first | (go_simp; done) | (go_simp; rfl))
         intro gb583 hg w70 hbox hb
         have n0_ := Aside0.mk (blk_below (bk_ BK550.out) hb)
         have n1_ := Aside0.mk (blk_below (bk_ BK551.out) hb)
         have n2_ := Aside0.mk (below_step (bl_ HB.out) hb)
         have n3_ := Aside0.mk (hbox)
         have n4_ := Aside0.mk (szl_ hg HB.out)
         have n5_ := Aside0.mk (szl_ hg HB.out)
         have n6_ := Aside0.mk (nel_ hg BK550.out)
         have n7_ := Aside0.mk (ner_ hg BK550.out)
         have n8_ := Aside0.mk (nel_ hg BK551.out)
         have n9_ := Aside0.mk (ner_ hg BK551.out)
         clear BK550 BK551 HB
         have BK550 := n0_
         have BK551 := n1_
         have HB := n2_
         have BK583 := n3_
         have GW583 := n4_
         have GE583 := n5_
         have NB550_583 := n6_
         have NB583_550 := n7_
         have NB551_583 := n8_
         have NB583_551 := n9_
         clear n0_ n1_ n2_ n3_ n4_ n5_ n6_ n7_ n8_ n9_ hb hbox hg
         refine hK.out _ _ ⟨(blk_cell BK550.out 0).trans rfl, (blk_cell BK550.out 1).trans rfl, (blk_cell BK550.out 2).trans rfl, (blk_cell BK551.out 0).trans rfl, (blk_cell BK551.out 1).trans rfl, (blk_cell BK551.out 2).trans rfl, (blk_cell BK551.out 3).trans rfl⟩ (fun hHeld => ?_)
         clear hK K
         refine norm_ (a' := ?_) ?_ ?_
         rotate_left
         ·
          show Act.put _ (some 15) _ = _
          simp only [Act.put, List.setIfInBounds_toArray, List.set_cons_zero, List.set_cons_succ, i64_w, i32_w]
          rfl
         refine one_ (i := 1) (N := some 65) #[true, true, true, true, true, true, false, false, false, false, true, false, false] rfl rfl (one_of HT_.out (by kernel_rfl)) (by decide) (fun K hK => ?_)
         refine goes_ Try.func24 (by kernel_rfl) rfl #[.agg #[.slice A0_0 l0_0.length c0_0, .slice A0_1 l0_1.length c0_1, .slice A0_2 l0_2.length c0_2]] (by rfl) rfl rfl (by (try simp only [List.map_toArray, List.map_cons, List.map_nil]); first | done | rfl | (simp only [List.length_drop, List.length_take]; rfl)) ?_
         with_reducible refine (swashplateref01_Copy.calls kj15 _ _ l0_0 _ _ l0_1 _ _ l0_2 t571 t574 t577 _ ?side1 ?side2 ?side3 ?side4 ?side5 ?side6 A35.out).mono ?_
         (case side1 => exact cr_ (Kd.C_below HR0_0.out HB.out))
         (case side2 => exact HC0_0.out)
         (case side3 => exact cr_ (Kd.C_below HR0_1.out HB.out))
         (case side4 => exact HC0_1.out)
         (case side5 => exact cr_ (Kd.C_below HR0_2.out HB.out))
         (case side6 => exact HC0_2.out)
         rintro e w71 ⟨v572, v575, v578, rfl, ho0, ho1, ho2, hb⟩
         refine ⟨_, rfl, ?_⟩
         have n0_ := Aside0.mk (Kd.R_lower ho0 (below_size (bl_ HB.out)))
         have n1_ := Aside0.mk (Kd.R_lower ho1 (below_size (bl_ HB.out)))
         have n2_ := Aside0.mk (Kd.S_lower ho2 (below_size (bl_ HB.out)))
         have n3_ := Aside0.mk (blk_below (bk_ BK550.out) hb)
         have n4_ := Aside0.mk (blk_below (bk_ BK551.out) hb)
         have n5_ := Aside0.mk (blk_below (bk_ BK583.out) hb)
         have n6_ := Aside0.mk (below_step (bl_ HB.out) hb)
         clear BK550 BK551 BK583 HB
         have HO573 := n0_
         have HO576 := n1_
         have HO579 := n2_
         have BK550 := n3_
         have BK551 := n4_
         have BK583 := n5_
         have HB := n6_
         clear n0_ n1_ n2_ n3_ n4_ n5_ n6_
         (try clear hb)
         (try clear hb2)
         (try clear hk)
         (try clear hi)
         (try clear ho0)
         (try clear ho1)
         (try clear ho2)
         obtain ⟨Ao72, co72, eo72⟩ := Kd.R_slice HO573.out
         (first | subst eo72 | (injection eo72 with f1_ f2_ f3_; have f4_ := f1_.symm; have f5_ := f3_.symm; clear f1_ f2_ f3_; subst f4_; subst f5_))
         obtain ⟨Ao73, co73, eo73⟩ := Kd.R_slice HO576.out
         (first | subst eo73 | (injection eo73 with f1_ f2_ f3_; have f4_ := f1_.symm; have f5_ := f3_.symm; clear f1_ f2_ f3_; subst f4_; subst f5_))
         obtain ⟨Ao74, co74, eo74⟩ := Kd.S_slice HO579.out
         (first | subst eo74 | (injection eo74 with f1_ f2_ f3_; have f4_ := f1_.symm; have f5_ := f3_.symm; clear f1_ f2_ f3_; subst f4_; subst f5_))
         refine hK.out _ _ ⟨(blk_cell BK550.out 0).trans rfl, (blk_cell BK550.out 1).trans rfl, (blk_cell BK550.out 2).trans rfl, (blk_cell BK551.out 0).trans rfl, (blk_cell BK551.out 1).trans rfl, (blk_cell BK551.out 2).trans rfl, (blk_cell BK551.out 3).trans rfl⟩ (fun hHeld => ?_)
         clear hK K
         refine norm_ (a' := ?_) ?_ ?_
         rotate_left
         ·
          show Act.put _ (some 65) _ = _
          simp only [Act.put, List.setIfInBounds_toArray, List.set_cons_zero, List.set_cons_succ, i64_w, i32_w]
          rfl
         refine one_ (i := 6) (N := some 70) #[true, true, true, true, true, true, true, false, false, false, true, false, false] rfl rfl (one_of HT_.out (by kernel_rfl)) (by decide) (fun K hK => ?_)
         refine goes_ Try.func30 (by kernel_rfl) rfl #[.agg #[.slice Ao72 t571.length co72, .slice Ao73 t574.length co73, .slice Ao74 t577.length co74], .agg #[.int .i64 a1_0, .int .i64 a1_1], .agg #[.int .i64 a1_2, .int .i64 a1_3]] (by rfl) rfl rfl (by (try simp only [List.map_toArray, List.map_cons, List.map_nil]); first | done | rfl | (simp only [List.length_drop, List.length_take]; rfl)) ?_
         with_reducible refine (spans_Bound.calls _ _ t571 _ _ t574 _ _ t577 a1_0 a1_1 a1_2 a1_3 t580 t581 t582 _ ?side1 ?side2 ?side3 ?side4 ?side5 ?side6 A36.out).mono ?_
         (case side1 => exact cr_ (Kd.R_reads' HO573.out).2.2)
         (case side2 => exact (Kd.R_reads' HO573.out).2.1)
         (case side3 => exact cr_ (Kd.R_reads' HO576.out).2.2)
         (case side4 => exact (Kd.R_reads' HO576.out).2.1)
         (case side5 => exact cr_ (Kd.S_reads' HO579.out).2.2)
         (case side6 => exact (Kd.S_reads' HO579.out).2.1)
         rintro e w75 ⟨rfl, hb⟩
         refine ⟨_, rfl, ?_⟩
         have n0_ := Aside0.mk (Kd.R_below (by (with_reducible repeat (first | apply Kd.R_alloc | apply Kd.R_drewN | apply Kd.R_drew)); exact HO573.out) hb)
         have n1_ := Aside0.mk (Kd.R_below (by (with_reducible repeat (first | apply Kd.R_alloc | apply Kd.R_drewN | apply Kd.R_drew)); exact HO576.out) hb)
         have n2_ := Aside0.mk (Kd.S_below (by (with_reducible repeat (first | apply Kd.S_alloc | apply Kd.S_drewN | apply Kd.S_drew)); exact HO579.out) hb)
         have n3_ := Aside0.mk (blk_below (bk_ BK550.out) hb)
         have n4_ := Aside0.mk (blk_below (bk_ BK551.out) hb)
         have n5_ := Aside0.mk (blk_below (bk_ BK583.out) hb)
         have n6_ := Aside0.mk (below_step (bl_ HB.out) hb)
         clear HO573 HO576 HO579 BK550 BK551 BK583 HB
         have HO573 := n0_
         have HO576 := n1_
         have HO579 := n2_
         have BK550 := n3_
         have BK551 := n4_
         have BK583 := n5_
         have HB := n6_
         clear n0_ n1_ n2_ n3_ n4_ n5_ n6_
         (try clear hb)
         (try clear hb2)
         (try clear hk)
         (try clear hi)
         refine hK.out _ _ ⟨(blk_cell BK550.out 0).trans rfl, (blk_cell BK550.out 1).trans rfl, (blk_cell BK550.out 2).trans rfl, (blk_cell BK551.out 0).trans rfl, (blk_cell BK551.out 1).trans rfl, (blk_cell BK551.out 2).trans rfl, (blk_cell BK551.out 3).trans rfl⟩ (fun hHeld => ?_)
         clear hK K
         refine norm_ (a' := ?_) ?_ ?_
         rotate_left
         ·
          show Act.put _ (some 70) _ = _
          simp only [Act.put, List.setIfInBounds_toArray, List.set_cons_zero, List.set_cons_succ, i64_w, i32_w]
          rfl
         refine pure_ (i := 7) (N := some 63) (v := ?_) (a' := ?_) #[true, true, true, true, true, true, true, true, false, false, true, false, false] rfl rfl (any_of HT_.out (by kernel_rfl)) (fun _ _ _ h => h) (Or.inl ⟨by rfl, ?_⟩) ?_ ?_
         rotate_left
         ·
          intro w'
          go_simp
          with_reducible rfl
         rotate_left
         ·
          simp only [Act.put, List.setIfInBounds_toArray, List.set_cons_zero, List.set_cons_succ, i64_w, i32_w]
          rfl
         refine pure_ (i := 8) (N := some 71) (v := ?_) (a' := ?_) #[true, true, true, true, true, true, true, true, true, false, true, false, false] rfl rfl (any_of HT_.out (by kernel_rfl)) (fun _ _ _ h => h) (Or.inl ⟨by rfl, ?_⟩) ?_ ?_
         rotate_left
         ·
          intro w'
          go_simp
          with_reducible rfl
         rotate_left
         ·
          simp only [Act.put, List.setIfInBounds_toArray, List.set_cons_zero, List.set_cons_succ, i64_w, i32_w]
          rfl
         refine pure_ (i := 9) (N := some 72) (v := ?_) (a' := ?_) #[true, true, true, true, true, true, true, true, true, true, true, false, false] rfl rfl (any_of HT_.out (by kernel_rfl)) (fun _ _ _ h => h) (Or.inl ⟨by rfl, ?_⟩) ?_ ?_
         rotate_left
         ·
          intro w'
          go_simp
          with_reducible rfl
         rotate_left
         ·
          simp only [Act.put, List.setIfInBounds_toArray, List.set_cons_zero, List.set_cons_succ, i64_w, i32_w]
          rfl
         exact norm_ (by simp only [putAll, Act.put, List.setIfInBounds_toArray, List.set_cons_zero, List.set_cons_succ]) (hCont (.slice Ao72 t571.length co72, .slice Ao73 t574.length co73, .slice Ao74 t577.length co74, gb583) _ ⟨hHeld, (by (with_reducible repeat (first | apply Kd.R_alloc | apply Kd.R_drewN | apply Kd.R_drew)); exact HO573.out), (by (with_reducible repeat (first | apply Kd.R_alloc | apply Kd.R_drewN | apply Kd.R_drew)); exact HO576.out), (by (with_reducible repeat (first | apply Kd.S_alloc | apply Kd.S_drewN | apply Kd.S_drew)); exact HO579.out), (bk_ BK550.out), (bk_ BK551.out), (bk_ BK583.out), GW583.out, GE583.out, NB550_583.out, NB583_550.out, NB551_583.out, NB583_551.out, (bl_ HB.out)⟩)
       rintro ⟨v572, v575, v578, gb583⟩ w76 ⟨hS_, h0_, h1_, h2_, h3_, h4_, h5_, h6_, h7_, h8_, h9_, h10_, h11_, h12_⟩
       have n0_ : Aside0 (Kd.R (Kd.int .i64) 3 w76 w.heap.size (fun k_ => some k_ ≠ (v575 : Value).ownBlock) v572 t571) := ⟨h0_⟩
       have n1_ : Aside0 (Kd.R (Kd.int .i64) 3 w76 w.heap.size (fun k_ => some k_ ≠ (v572 : Value).ownBlock) v575 t574) := ⟨h1_⟩
       have n2_ : Aside0 (Kd.S (Kd.slice 3 (Kd.int .i64)) 22 w76 w.heap.size (fun k_ => some k_ ≠ (v572 : Value).ownBlock ∧ some k_ ≠ (v575 : Value).ownBlock) v578 t577) := ⟨h2_⟩
       have n3_ : Aside0 (w76.heap[gb550]? = some (.cells #[.slice A0_0 l0_0.length c0_0, .slice A0_1 l0_1.length c0_1, .slice A0_2 l0_2.length c0_2] 25 (0, 0))) := ⟨h3_⟩
       have n4_ : Aside0 (w76.heap[gb551]? = some (.cells #[.int .i64 a1_0, .int .i64 a1_1, .int .i64 a1_2, .int .i64 a1_3] 43 (0, 0))) := ⟨h4_⟩
       have n5_ : Aside0 (w76.heap[gb583]? = some (.cells #[.int .i64 0, .int .i64 0] 27 (0, 0))) := ⟨h5_⟩
       have n6_ : Aside0 (w.heap.size ≤ gb583) := ⟨h6_⟩
       have n7_ : Aside0 (w.heap.size ≤ gb583) := ⟨h7_⟩
       have n8_ : Aside0 (gb550 ≠ gb583) := ⟨h8_⟩
       have n9_ : Aside0 (gb583 ≠ gb550) := ⟨h9_⟩
       have n10_ : Aside0 (gb551 ≠ gb583) := ⟨h10_⟩
       have n11_ : Aside0 (gb583 ≠ gb551) := ⟨h11_⟩
       have n12_ : Aside0 (Below w.heap.size w w76) := ⟨h12_⟩
       clear BK550 BK551 HB h0_ h1_ h2_ h3_ h4_ h5_ h6_ h7_ h8_ h9_ h10_ h11_ h12_
       have HO573 := n0_
       have HO576 := n1_
       have HO579 := n2_
       have BK550 := n3_
       have BK551 := n4_
       have BK583 := n5_
       have GW583 := n6_
       have GE583 := n7_
       have NB550_583 := n8_
       have NB583_550 := n9_
       have NB551_583 := n10_
       have NB583_551 := n11_
       have HB := n12_
       clear n0_ n1_ n2_ n3_ n4_ n5_ n6_ n7_ n8_ n9_ n10_ n11_ n12_
       have hHeld : w76.cell? ⟨gb550, 0, none⟩ = some (.slice A0_0 l0_0.length c0_0) ∧ w76.cell? ⟨gb550, 1, none⟩ = some (.slice A0_1 l0_1.length c0_1) ∧ w76.cell? ⟨gb550, 2, none⟩ = some (.slice A0_2 l0_2.length c0_2) ∧ w76.cell? ⟨gb551, 0, none⟩ = some (.int .i64 a1_0) ∧ w76.cell? ⟨gb551, 1, none⟩ = some (.int .i64 a1_1) ∧ w76.cell? ⟨gb551, 2, none⟩ = some (.int .i64 a1_2) ∧ w76.cell? ⟨gb551, 3, none⟩ = some (.int .i64 a1_3) := hS_
       refine norm_ (a' := ?_) ?_ ?_
       rotate_left
       ·
        simp only [putAll, Act.put, List.setIfInBounds_toArray, List.set_cons_zero, List.set_cons_succ]
        rfl
       refine one_ (i := 11) (N := none) #[true, true, true, true, true, true, true, true, true, true, true, true, false] rfl rfl (one_of HT_.out (by kernel_rfl)) (by decide) (fun K hK => ?_)
       have hs77 : w76.cell? ⟨gb583, 0, none⟩ = some (.int .i64 0) := (blk_cell BK583.out 0).trans rfl
       have hfs77 := blk_frozen BK583.out 0
       have hns77_0 := NB550_583.out
       have hns77_1 := NB551_583.out
       have hms77_0 := NB583_550.out
       have hms77_1 := NB583_551.out
       have hs78 : w76.cell? ⟨gb583, 1, none⟩ = some (.int .i64 0) := (blk_cell BK583.out 1).trans rfl
       have hfs78 := blk_frozen BK583.out 1
       have hns78_0 := NB550_583.out
       have hns78_1 := NB551_583.out
       have hms78_0 := NB583_550.out
       have hms78_1 := NB583_551.out
       refine skip_ (w1 := ?_) (by rfl) rfl ?_ ?_
       rotate_left
       ·
        go_simp
        rfl
       refine hK.out _ _ ⟨((cell_far (p := ⟨gb583, _, none⟩) NB550_583.out _).trans (((cell_far (p := ⟨gb583, _, none⟩) NB550_583.out _).trans (hHeld.1)))), ((cell_far (p := ⟨gb583, _, none⟩) NB550_583.out _).trans (((cell_far (p := ⟨gb583, _, none⟩) NB550_583.out _).trans (hHeld.2.1)))), ((cell_far (p := ⟨gb583, _, none⟩) NB550_583.out _).trans (((cell_far (p := ⟨gb583, _, none⟩) NB550_583.out _).trans (hHeld.2.2.1)))), ((cell_far (p := ⟨gb583, _, none⟩) NB551_583.out _).trans (((cell_far (p := ⟨gb583, _, none⟩) NB551_583.out _).trans (hHeld.2.2.2.1)))), ((cell_far (p := ⟨gb583, _, none⟩) NB551_583.out _).trans (((cell_far (p := ⟨gb583, _, none⟩) NB551_583.out _).trans (hHeld.2.2.2.2.1)))), ((cell_far (p := ⟨gb583, _, none⟩) NB551_583.out _).trans (((cell_far (p := ⟨gb583, _, none⟩) NB551_583.out _).trans (hHeld.2.2.2.2.2.1)))), ((cell_far (p := ⟨gb583, _, none⟩) NB551_583.out _).trans (((cell_far (p := ⟨gb583, _, none⟩) NB551_583.out _).trans (hHeld.2.2.2.2.2.2))))⟩ (fun hHeld => ?_)
       clear hK K
       refine pure_ (i := 12) (N := some 16) (v := ?_) (a' := ?_) #[true, true, true, true, true, true, true, true, true, true, true, true, true] rfl rfl (any_of HT_.out (by kernel_rfl)) (fun _ _ _ h => h) (Or.inl ⟨by rfl, ?_⟩) ?_ ?_
       rotate_left
       ·
        intro w'
        go_simp
        with_reducible rfl
       rotate_left
       ·
        simp only [Act.put, List.setIfInBounds_toArray, List.set_cons_zero, List.set_cons_succ, i64_w, i32_w]
        rfl
       refine done_ (done_of HT_.out (by kernel_rfl)) ?_
       try go_wp2_with (first | (go_at_call 22; (with_reducible refine (swashplatelaw01_works.calls kj15  t585 _ A68.out).mono ?_); rintro e w79 ⟨rfl, hb⟩; have n0_ := Aside0.mk (Kd.R_below (by (with_reducible repeat (first | apply Kd.R_alloc | apply Kd.R_drewN | apply Kd.R_drew)); exact (Kd.R_mono (Kd.R_far (p := ⟨gb583, 1, none⟩) (Kd.R_far (p := ⟨gb583, 0, none⟩) (Kd.R_types HO573.out BK583.out (by decide)) (fun _ hk => hk.2) (.int .i64 t580)) (fun _ hk => hk.2) (.int .i64 t581)) (fun _ h_ => h_.1))) hb); have n1_ := Aside0.mk (Kd.R_below (by (with_reducible repeat (first | apply Kd.R_alloc | apply Kd.R_drewN | apply Kd.R_drew)); exact (Kd.R_mono (Kd.R_far (p := ⟨gb583, 1, none⟩) (Kd.R_far (p := ⟨gb583, 0, none⟩) (Kd.R_types HO576.out BK583.out (by decide)) (fun _ hk => hk.2) (.int .i64 t580)) (fun _ hk => hk.2) (.int .i64 t581)) (fun _ h_ => h_.1))) hb); have n2_ := Aside0.mk (Kd.S_below (by (with_reducible repeat (first | apply Kd.S_alloc | apply Kd.S_drewN | apply Kd.S_drew)); exact (Kd.S_mono (Kd.S_far (p := ⟨gb583, 1, none⟩) (Kd.S_far (p := ⟨gb583, 0, none⟩) (Kd.S_types HO579.out BK583.out (by decide)) (fun _ hk => hk.2) (.int .i64 t580)) (fun _ hk => hk.2) (.int .i64 t581)) (fun _ h_ => h_.1))) hb); have n3_ := Aside0.mk (blk_below (g := gb550) (o := .cells #[.slice A0_0 l0_0.length c0_0, .slice A0_1 l0_1.length c0_1, .slice A0_2 l0_2.length c0_2] 25 (0, 0)) (by (with_reducible repeat (first | refine blk_drewN ?_ _ | refine blk_drew ?_ | refine blk_alloc ?_ _)); refine blk_far ?_ NB550_583.out _; (with_reducible repeat (first | refine blk_drewN ?_ _ | refine blk_drew ?_ | refine blk_alloc ?_ _)); refine blk_far ?_ NB550_583.out _; (with_reducible repeat (first | refine blk_drewN ?_ _ | refine blk_drew ?_ | refine blk_alloc ?_ _)); exact BK550.out) hb); have n4_ := Aside0.mk (blk_below (g := gb551) (o := .cells #[.int .i64 a1_0, .int .i64 a1_1, .int .i64 a1_2, .int .i64 a1_3] 43 (0, 0)) (by (with_reducible repeat (first | refine blk_drewN ?_ _ | refine blk_drew ?_ | refine blk_alloc ?_ _)); refine blk_far ?_ NB551_583.out _; (with_reducible repeat (first | refine blk_drewN ?_ _ | refine blk_drew ?_ | refine blk_alloc ?_ _)); refine blk_far ?_ NB551_583.out _; (with_reducible repeat (first | refine blk_drewN ?_ _ | refine blk_drew ?_ | refine blk_alloc ?_ _)); exact BK551.out) hb); have n5_ := Aside0.mk (blk_below (g := gb583) (o := .cells #[.int .i64 t580, .int .i64 t581] 27 (0, 0)) (by (with_reducible repeat (first | refine blk_drewN ?_ _ | refine blk_drew ?_ | refine blk_alloc ?_ _)); refine blk_put (cs := #[.int .i64 t580, .int .i64 0]) ?_ 1 _ rfl; (with_reducible repeat (first | refine blk_drewN ?_ _ | refine blk_drew ?_ | refine blk_alloc ?_ _)); refine blk_put (cs := #[.int .i64 0, .int .i64 0]) ?_ 0 _ rfl; (with_reducible repeat (first | refine blk_drewN ?_ _ | refine blk_drew ?_ | refine blk_alloc ?_ _)); exact BK583.out) hb); have n6_ := Aside0.mk (below_step (bl_ HB.out) hb); clear HO573 HO576 HO579 BK550 BK551 BK583 HB; have HO573 := n0_; have HO576 := n1_; have HO579 := n2_; have BK550 := n3_; have BK551 := n4_; have BK583 := n5_; have HB := n6_; clear n0_ n1_ n2_ n3_ n4_ n5_ n6_; (try clear hb); (try clear hb2); (try clear hk); (try clear hi)))
       go_ret
       exact ⟨by first | rfl | (simp [errW_none, errW_some] <;> rfl) | (simp [*, errW_none, errW_some] <;> rfl), bl_ HB.out⟩
     ·
      rw [if_neg c37] at H
      have c37b0 : (t582 == t566) = false := beq_eq_false_iff_ne.mpr c37
      have c37b1 : (t582 != t566) = true := bne_iff_ne.mpr c37
      exact absurd ((Option.some.inj H).trans hrT.out) (by decide)
end Go.Proofs.Yteodlmgmmpkpoaa.PS
end
section
namespace Go.Proofs.Yteodlmgmmpkpoaa.PS
open Go.RowKit Go.Proofs.YteodlmgmmpkpoaaW.PrintWords Go.Proofs.YteodlmgmmpkpoaaW.PrintLast Go.Proofs.YteodlmgmmpkpoaaW.PrintMore
set_option linter.unusedVariables false
theorem below_err (l : List Pt) (limit : Int) : (belowL l limit).2.2.2 = 0 := by
  unfold belowL
  cases l.find? (fun p => decide (limit < ceP p)) <;> rfl
theorem below_true (X Y : List Int) (V : List (List Int)) (a0 a1 b0 b1 limit : Int) : swashplatelaw01_SpansBelow.f 1000 X Y V a0 a1 b0 b1 limit = some true := by
  have hj : ∀ a b c d, swashplatelaw01_SpansBelow.j0 1000 a b c d X Y V a0 a1 b0 b1 = swashplatelaw01_SpansBelow.j0 (999 + 1) a b c d X Y V a0 a1 b0 b1 := fun _ _ _ _ => rfl
  unfold swashplatelaw01_SpansBelow.f
  rw [far_total X Y V 1000 (by omega), Option.bind_some]
  cases hf : farB X Y V with
  | true => rw [if_pos rfl, works_at 1000 (by omega)]; rfl
  | false =>
    obtain ⟨hx, hy, hv, hr⟩ := far_false hf
    rw [if_neg (by simp), copy_total X Y V hx hy hv hr 1000 (by omega), Option.bind_some]
    dsimp only
    rw [below_total, Option.bind_some, rbelow_total X Y V hx hy hv hr a0 a1 b0 b1 limit 1000 (by omega), Option.bind_some, if_pos rfl, if_pos rfl, if_neg (by simp), hj]
    simp only [swashplatelaw01_SpansBelow.j0]
    rw [if_neg (by simp), copy_total X Y V hx hy hv hr 999 (by omega), Option.bind_some]
    dsimp only
    rw [bound_total, Option.bind_some, works_at 999 (by omega)]
    unfold boundR belowR
    by_cases he : pointsE X Y V a0 a1 b0 b1 = 0
    · have h := box2_of ((points_iff X Y V a0 a1 b0 b1).1 he)
      rw [if_pos he, if_pos he, below_err, below_bound h]
      simp
    · rw [if_neg he, if_neg he]
      simp [he]
end Go.Proofs.Yteodlmgmmpkpoaa.PS
end
section
namespace Go.Proofs.Yteodlmgmmpkpoaa.PS
open Go.RowKit Go.Deep Go.ChangeShapes Go.WideShapes Go.ChangeAt Go.Proofs.YteodlmgmmpkpoaaW.PrintWords
set_option linter.unusedVariables false
set_option maxRecDepth 100000 in
theorem liftedBelow (os : Os) (started : os.Started) (H : Type) (enc : TypeId × Value → H) :
    ReturnsInHanded {} Try.checked os 8 .any (Rows.spansBelowSpec.pre6 enc Try.prog Try.f8 Rows.spansBelowRow.domain false) (Rows.spansBelowSpec.post enc Try.prog Try.f8 false true false false) := by
  refine returnsInHanded_of_change (C := Try.checked) ownNone started (by kernel_rfl) Try.func8
    (ChangeSpec.witness6 (enc := enc) (C := Try.checked) false ⟨#[], #[.agg #[.slice none 0 0, .slice none 0 0, .slice none 0 0], .agg #[.int .i64 0, .int .i64 0, .int .i64 0, .int .i64 0], .int .i64 0], []⟩ 8 (by kernel_rfl) (by kernel_rfl) (by kernel_rfl) (by kernel_rfl)) ?_
  intro W base args ds gs before hval0 hW hcnd _
  have hval : ∀ (j : Nat) t v, Try.f8.params[j]? = some t → args[j]? = some v → Value.okWide Try.prog W .any base t v := hval0
  have hW' := hW
  obtain ⟨p, q, hA0, hV, rfl, hfz, hnd⟩ := hW
  have hA : DataW.TrodAll enc Try.prog W 0 (fun _ => true) true Try.f8.params.toList args.toList ds p := hA0
  rw [Try.params8] at hA hval
  obtain ⟨v0, vs0, d0, ds0, p0, q0, hargs, rfl, rfl, h0, r0⟩ := trodAll_cons hA
  obtain ⟨v1, vs1, d1, ds1, p1, q1, rfl, rfl, rfl, h1, r1⟩ := trodAll_cons r0
  obtain ⟨v2, vs2, d2, ds2, p2, q2, rfl, rfl, rfl, h2, r2⟩ := trodAll_cons r1
  obtain ⟨rfl, rfl, rfl⟩ := trodAll_nil r2
  obtain rfl : args = #[v0, v1, v2] := by cases args; simp_all
  obtain ⟨rfl, rfl⟩ := trodVars_none hV
  have k0 := h0
  have lt0 : ∀ x ∈ p0, x.block < W.heap.size := by obtain ⟨m, hm⟩ := k0; exact DataW.trod_lt m _ _ _ hm
  have k1 := h1
  have lt1 : ∀ x ∈ p1, x.block < W.heap.size := by obtain ⟨m, hm⟩ := k1; exact DataW.trod_lt m _ _ _ hm
  obtain ⟨A00, c00, X0, A01, c01, Y0, A02, c02, V0, rfl, t01, t02, t03, t04, t05, t06, _, _, _⟩ := arg25 (hval 0 25 v0 rfl rfl) h0
  obtain ⟨x10, x11, x12, x13, rfl⟩ := arg43 (hval 1 43 v1 rfl rfl) h1
  obtain ⟨n2, rfl, rfl, rfl, w2⟩ := open_int Try.underlying3 (hval 2 3 v2 rfl rfl) h2
  clear hA0 hval0
  refine (swashplatelaw01_SpansBelow.calls 1000 A00 c00 X0 A01 c01 Y0 A02 c02 V0 x10 x11 x12 x13 n2 true W t02 t01 t04 t03 t06 t05 (below_true X0 Y0 V0 x10 x11 x12 x13 n2) ⟨rfl⟩).mono fun e W' ⟨he, bel⟩ => ?_
  subst he
  exact ⟨_, rfl, _, _, _, [], _, [], hW', trodAll_mk1 (shut_bool Try.underlying4 _), (trodAll_cons_mk (Below.trod laidOut (by kernel_rfl) (of_decide_eq_true (by kernel_rfl)) k0 bel lt0) (trodAll_cons_mk (Below.trod laidOut (by kernel_rfl) (of_decide_eq_true (by kernel_rfl)) k1 bel lt1) (trodAll_cons_mk (shut_int Try.underlying3 w2) trodAll_mk0))), rfl, bel.frame _, fun h => by cases h⟩
theorem factsBelow : joinedFacts Try.prog 8 Try.f8 Rows.spansBelowSpec Rows.spansBelowRow = true := by
  have fk : (Rows.spansBelowRow.plainKeys == Try.prog.plainKeys) = true := factKeys
  have fl : (Rows.spansBelowRow.lifted == Try.prog.liftsFinal) = true := factLifted
  have fm : (Try.prog.make == some Rows.spansBelowRow.make) = true := factMake
  unfold joinedFacts
  repeat' (with_reducible refine Bool.and_eq_true_iff.2 ⟨?_, ?_⟩)
  all_goals first | (with_reducible exact fk) | (with_reducible exact factHeard) | (with_reducible exact factEnter) | (with_reducible exact fl) | (with_reducible exact fm) | kernel_rfl
theorem overBelow : Rows.spansBelowRow.holds Try.pinned (OpenSpec.ofChange Rows.spansBelowSpec) :=
  OpenClaim.holds_of_wide 8 Try.f8 rfl rfl rfl rfl rfl rfl rfl ⟨rfl, rfl, rfl, rfl, rfl⟩ rfl rfl rfl rfl rfl (by kernel_rfl) Try.func8 factsBelow
    (of_decide_eq_true (by kernel_rfl)) (by unfold Func.isWrapper; first | (rw [if_pos (by decide +kernel)]; kernel_rfl) | (rw [if_neg (by decide +kernel)]; exact ⟨rfl, rfl⟩))
    (fun os started H enc _ => liftedBelow os started H enc)
theorem belowProved : Rows.SpansBelowSaid := overBelow
#print axioms belowProved
end Go.Proofs.Yteodlmgmmpkpoaa.PS
end
