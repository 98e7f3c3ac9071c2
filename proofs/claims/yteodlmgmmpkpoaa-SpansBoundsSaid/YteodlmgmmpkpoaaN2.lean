-- Printed by a program of this session out of the translation (hybrid print) and out of hand proofs. Not trusted: Lean checks it.
import Derived.Test.YteodlmgmmpkpoaaN1
section
namespace Go.Proofs.Yteodlmgmmpkpoaa.PS
open Go.RowKit Go.Proofs.YteodlmgmmpkpoaaW.PrintWords Go.Proofs.YteodlmgmmpkpoaaW.PrintLast Go.Proofs.YteodlmgmmpkpoaaW.PrintMore
attribute [local go_sem] max2_int min2_int max_two min_two max_three min_three max_four min_four   -- for this text's walks alone
set_option linter.unusedVariables false
set_option linter.unusedSimpArgs false
attribute [local go_sem high] eqA27
def swashplatelaw01_SpansBounds.f (k : Nat) (l0_0 : List Int) (l0_1 : List Int) (l0_2 : List (List Int)) (a1_0 : Int) (a1_1 : Int) (a1_2 : Int) (a1_3 : Int) : Option (Bool) := (swashplatelaw01_Far.f k l0_0 l0_1 l0_2).bind fun t492 => (if t492 = true then ((swashplatelaw01_works.f k).bind fun t493 => (some t493)) else ((swashplateref01_Copy.f k l0_0 l0_1 l0_2).bind fun bt494 => ((spans_Bound.f bt494.1 bt494.2.1 bt494.2.2 a1_0 a1_1 a1_2 a1_3).bind fun bt503 => ((swashplateref01_Bound.f k l0_0 l0_1 l0_2 a1_0 a1_1 a1_2 a1_3).bind fun bt507 => ((swashplateref01_Copy.f k l0_0 l0_1 l0_2).bind fun bt511 => ((spans_Worst.f bt511.1 bt511.2.1 bt511.2.2 a1_0 a1_1 a1_2 a1_3).bind fun bt520 => ((swashplateref01_Worst.f k l0_0 l0_1 l0_2 a1_0 a1_1 a1_2 a1_3).bind fun bt523 => (if (bt503.1 == bt507.1 && (bt503.2.1 == bt507.2.1)) = true then (if bt503.2.2 = bt507.2.2 then (if bt520.1 = bt523.1 then (if bt520.2.1 = bt523.2.1 then (if bt520.2.2 = bt523.2.2 then ((swashplatelaw01_works.f k).bind fun t526 => (some t526)) else (some false)) else (some false)) else (some false)) else (some false)) else (some false)))))))))
def swashplatelaw01_SpansBounds.T3 : Bool × List (List Nat × List Nat) := (true, [([], []), ([0], [0]), ([], []), ([2], [2]), ([], []), ([4], [4]), ([1, 3, 5, 1], [1, 3, 5]), ([6], [6]), ([7], [7]), ([7], [7]), ([], []), ([10, 8, 6, 0, 1, 2, 3, 4, 5, 6, 7, 8, 10], [8, 10]), ([9, 11, 0, 1, 2, 3, 4, 5, 6, 7, 8, 9, 10, 11], [9])])
def swashplatelaw01_SpansBounds.B3 : List Nat := [0, 1, 0, 4, 0, 16, 63, 127, 255, 255, 0, 1535, 4095]
theorem swashplatelaw01_SpansBounds.tab3 : rtab .any (opsOf Try.f5 3) = swashplatelaw01_SpansBounds.T3 := by kernel_rfl
theorem swashplatelaw01_SpansBounds.bits3 : waitsOk swashplatelaw01_SpansBounds.T3.2 swashplatelaw01_SpansBounds.B3 = true := by kernel_rfl
def swashplatelaw01_SpansBounds.T5 : Bool × List (List Nat × List Nat) := (true, [([], []), ([0], [0]), ([], []), ([2], [2]), ([], []), ([4], [4]), ([1, 3, 5, 1], [1, 3, 5]), ([6], [6]), ([7], [7]), ([7], [7]), ([7], [7]), ([8, 6, 0, 1, 2, 3, 4, 5, 6, 7, 8], [8]), ([9, 11, 0, 1, 2, 3, 4, 5, 6, 7, 8, 9, 11], [9]), ([10, 12, 0, 1, 2, 3, 4, 5, 6, 7, 8, 9, 10, 11, 12], [10])])
def swashplatelaw01_SpansBounds.B5 : List Nat := [0, 1, 0, 4, 0, 16, 63, 127, 255, 255, 255, 511, 3071, 8191]
theorem swashplatelaw01_SpansBounds.tab5 : rtab .any (opsOf Try.f5 5) = swashplatelaw01_SpansBounds.T5 := by kernel_rfl
theorem swashplatelaw01_SpansBounds.bits5 : waitsOk swashplatelaw01_SpansBounds.T5.2 swashplatelaw01_SpansBounds.B5 = true := by kernel_rfl
set_option maxHeartbeats 8000000 in
set_option maxRecDepth 100000 in
theorem swashplatelaw01_SpansBounds.calls (k : Nat) (A0_0 : Option Addr) (c0_0 : Nat) (l0_0 : List Int) (A0_1 : Option Addr) (c0_1 : Nat) (l0_1 : List Int) (A0_2 : Option Addr) (c0_2 : Nat) (l0_2 : List (List Int)) (a1_0 : Int) (a1_1 : Int) (a1_2 : Int) (a1_3 : Int) (r : Bool) (w : World) (hr0_0 : Kd.C (Kd.int .i64) w A0_0 l0_0.length l0_0) (hc0_0 : l0_0.length ≤ c0_0) (hr0_1 : Kd.C (Kd.int .i64) w A0_1 l0_1.length l0_1) (hc0_1 : l0_1.length ≤ c0_1) (hr0_2 : Kd.C (Kd.slice 3 (Kd.int .i64)) w A0_2 l0_2.length l0_2) (hc0_2 : l0_2.length ≤ c0_2) (h : swashplatelaw01_SpansBounds.f k l0_0 l0_1 l0_2 a1_0 a1_1 a1_2 a1_3 = some r) (hrT : Aside0 (r = true)) :
  Calls Try.prog 5 #[.agg #[.slice A0_0 l0_0.length c0_0, .slice A0_1 l0_1.length c0_1, .slice A0_2 l0_2.length c0_2], .agg #[.int .i64 a1_0, .int .i64 a1_1, .int .i64 a1_2, .int .i64 a1_3]] w fun e w' => e = .returned (.bool r) ∧ Below w.heap.size w w' := by
 have hu25 := Try.underlying25
 have hu43 := Try.underlying43
 have hu27 := Try.underlying27
 have HR0_0 := Aside0.mk hr0_0
 have HC0_0 := Aside0.mk hc0_0
 clear hr0_0 hc0_0
 have HR0_1 := Aside0.mk hr0_1
 have HC0_1 := Aside0.mk hc0_1
 clear hr0_1 hc0_1
 have HR0_2 := Aside0.mk hr0_2
 have HC0_2 := Aside0.mk hc0_2
 clear hr0_2 hc0_2
 have HB := Aside0.mk (Below.refl w.heap.size w)
 have H : ((swashplatelaw01_Far.f k l0_0 l0_1 l0_2).bind fun t492 => (if t492 = true then ((swashplatelaw01_works.f k).bind fun t493 => (some t493)) else ((swashplateref01_Copy.f k l0_0 l0_1 l0_2).bind fun bt494 => ((spans_Bound.f bt494.1 bt494.2.1 bt494.2.2 a1_0 a1_1 a1_2 a1_3).bind fun bt503 => ((swashplateref01_Bound.f k l0_0 l0_1 l0_2 a1_0 a1_1 a1_2 a1_3).bind fun bt507 => ((swashplateref01_Copy.f k l0_0 l0_1 l0_2).bind fun bt511 => ((spans_Worst.f bt511.1 bt511.2.1 bt511.2.2 a1_0 a1_1 a1_2 a1_3).bind fun bt520 => ((swashplateref01_Worst.f k l0_0 l0_1 l0_2 a1_0 a1_1 a1_2 a1_3).bind fun bt523 => (if (bt503.1 == bt507.1 && (bt503.2.1 == bt507.2.1)) = true then (if bt503.2.2 = bt507.2.2 then (if bt520.1 = bt523.1 then (if bt520.2.1 = bt523.2.1 then (if bt520.2.2 = bt523.2.2 then ((swashplatelaw01_works.f k).bind fun t526 => (some t526)) else (some false)) else (some false)) else (some false)) else (some false)) else (some false)))))))))) = some r := h
 clear h
 replace H := Option.bind_eq_some_iff.mp H
 obtain ⟨t492, A30, H⟩ := H
 replace H : (if t492 = true then ((swashplatelaw01_works.f k).bind fun t493 => (some t493)) else ((swashplateref01_Copy.f k l0_0 l0_1 l0_2).bind fun bt494 => ((spans_Bound.f bt494.1 bt494.2.1 bt494.2.2 a1_0 a1_1 a1_2 a1_3).bind fun bt503 => ((swashplateref01_Bound.f k l0_0 l0_1 l0_2 a1_0 a1_1 a1_2 a1_3).bind fun bt507 => ((swashplateref01_Copy.f k l0_0 l0_1 l0_2).bind fun bt511 => ((spans_Worst.f bt511.1 bt511.2.1 bt511.2.2 a1_0 a1_1 a1_2 a1_3).bind fun bt520 => ((swashplateref01_Worst.f k l0_0 l0_1 l0_2 a1_0 a1_1 a1_2 a1_3).bind fun bt523 => (if (bt503.1 == bt507.1 && (bt503.2.1 == bt507.2.1)) = true then (if bt503.2.2 = bt507.2.2 then (if bt520.1 = bt523.1 then (if bt520.2.1 = bt523.2.1 then (if bt520.2.2 = bt523.2.2 then ((swashplatelaw01_works.f k).bind fun t526 => (some t526)) else (some false)) else (some false)) else (some false)) else (some false)) else (some false))))))))) = some r := H
 have A3 := Aside0.mk A30
 clear A30
 by_cases c4 : t492 = true
 ·
  subst c4
  have H1 : ((swashplatelaw01_works.f k).bind fun t493 => (some t493)) = some r := by rw [if_pos rfl] at H; exact H
  clear H
  have H := H1
  clear H1
  replace H := Option.bind_eq_some_iff.mp H
  obtain ⟨t493, A50, H⟩ := H
  replace H : (some t493) = some r := H
  have A5 := Aside0.mk A50
  clear A50
  obtain rfl := Option.some.inj H
  go_enter Try.func5, Try.ntmps5
  go_wp2_with (first | ((with_reducible refine gate_dst (N := 2) rfl ?_); refine box_event ?hg (N := 2) ?hd (cs := #[.slice A0_0 l0_0.length c0_0, .slice A0_1 l0_1.length c0_1, .slice A0_2 l0_2.length c0_2]) (t := 25) ?hr ?_; (case hd => rfl); (case hg => rfl); (case hr => first | (go_simp; done) | (go_simp; rfl)); intro gb490 hg w6 hbox hb; have n0_ := Aside0.mk (below_step (bl_ HB.out) hb); have n1_ := Aside0.mk (hbox); have n2_ := Aside0.mk (szl_ hg HB.out); have n3_ := Aside0.mk (szl_ hg HB.out); clear HB; have HB := n0_; have BK490 := n1_; have GW490 := n2_; have GE490 := n3_; clear n0_ n1_ n2_ n3_ hb hbox hg) | ((with_reducible refine gate_dst (N := 3) rfl ?_); refine box_event ?hg (N := 3) ?hd (cs := #[.int .i64 a1_0, .int .i64 a1_1, .int .i64 a1_2, .int .i64 a1_3]) (t := 43) ?hr ?_; (case hd => rfl); (case hg => rfl); (case hr => first | (go_simp; done) | (go_simp; rfl)); intro gb491 hg w7 hbox hb; have n0_ := Aside0.mk (blk_below (bk_ BK490.out) hb); have n1_ := Aside0.mk (below_step (bl_ HB.out) hb); have n2_ := Aside0.mk (hbox); have n3_ := Aside0.mk (szl_ hg HB.out); have n4_ := Aside0.mk (szl_ hg HB.out); have n5_ := Aside0.mk (nel_ hg BK490.out); have n6_ := Aside0.mk (ner_ hg BK490.out); clear BK490 HB; have BK490 := n0_; have HB := n1_; have BK491 := n2_; have GW491 := n3_; have GE491 := n4_; have NB490_491 := n5_; have NB491_490 := n6_; clear n0_ n1_ n2_ n3_ n4_ n5_ n6_ hb hbox hg; have hnb8 := NB490_491.out; have hnc8 := NB491_490.out; have hcz9_0 : w7.cell? ⟨gb490, 0, none⟩ = some (.slice A0_0 l0_0.length c0_0) := (blk_cell BK490.out 0).trans rfl; have hcz9_1 : w7.cell? ⟨gb490, 1, none⟩ = some (.slice A0_1 l0_1.length c0_1) := (blk_cell BK490.out 1).trans rfl; have hcz9_2 : w7.cell? ⟨gb490, 2, none⟩ = some (.slice A0_2 l0_2.length c0_2) := (blk_cell BK490.out 2).trans rfl; have hfz9_0 := blk_frozen BK490.out 0; have hfz9_1 := blk_frozen BK490.out 1; have hfz9_2 := blk_frozen BK490.out 2) | ((with_reducible refine gate_callee (f := 20) rfl ?_); refine goesL_ (some 16) rfl rfl Try.func20 (by kernel_rfl) rfl #[.agg #[.slice A0_0 l0_0.length c0_0, .slice A0_1 l0_1.length c0_1, .slice A0_2 l0_2.length c0_2]] rfl (by (try simp only [List.map_toArray, List.map_cons, List.map_nil]); first | done | rfl | (simp only [List.length_drop, List.length_take]; rfl)) ?_; (with_reducible refine (swashplatelaw01_Far.calls k _ _ l0_0 _ _ l0_1 _ _ l0_2 true _ ?side1 ?side2 ?side3 ?side4 ?side5 ?side6 A3.out).mono ?_); (case side1 => exact cr_ (Kd.C_below HR0_0.out HB.out)); (case side2 => exact HC0_0.out); (case side3 => exact cr_ (Kd.C_below HR0_1.out HB.out)); (case side4 => exact HC0_1.out); (case side5 => exact cr_ (Kd.C_below HR0_2.out HB.out)); (case side6 => exact HC0_2.out); rintro e w10 ⟨rfl, hb⟩; refine ⟨_, rfl, ?_⟩; have n0_ := Aside0.mk (blk_below (bk_ BK490.out) hb); have n1_ := Aside0.mk (blk_below (bk_ BK491.out) hb); have n2_ := Aside0.mk (below_step (bl_ HB.out) hb); clear BK490 BK491 HB; have BK490 := n0_; have BK491 := n1_; have HB := n2_; clear n0_ n1_ n2_; (try clear hb); (try clear hb2); (try clear hk); (try clear hi)) | ((with_reducible refine gate_callee (f := 22) rfl ?_); refine goesL_ (some 17) rfl rfl Try.func22 (by kernel_rfl) rfl #[] rfl (by (try simp only [List.map_toArray, List.map_cons, List.map_nil]); first | done | rfl | (simp only [List.length_drop, List.length_take]; rfl)) ?_; (with_reducible refine (swashplatelaw01_works.calls k  t493 _ A5.out).mono ?_); rintro e w11 ⟨rfl, hb⟩; refine ⟨_, rfl, ?_⟩; have n0_ := Aside0.mk (blk_below (bk_ BK490.out) hb); have n1_ := Aside0.mk (blk_below (bk_ BK491.out) hb); have n2_ := Aside0.mk (below_step (bl_ HB.out) hb); clear BK490 BK491 HB; have BK490 := n0_; have BK491 := n1_; have HB := n2_; clear n0_ n1_ n2_; (try clear hb); (try clear hb2); (try clear hk); (try clear hi)))
  go_ret
  exact ⟨by first | rfl | (simp [errW_none, errW_some] <;> rfl) | (simp [*, errW_none, errW_some] <;> rfl), bl_ HB.out⟩
 ·
  replace c4 := Bool.eq_false_iff.mpr c4
  subst c4
  have H1 : ((swashplateref01_Copy.f k l0_0 l0_1 l0_2).bind fun bt494 => ((spans_Bound.f bt494.1 bt494.2.1 bt494.2.2 a1_0 a1_1 a1_2 a1_3).bind fun bt503 => ((swashplateref01_Bound.f k l0_0 l0_1 l0_2 a1_0 a1_1 a1_2 a1_3).bind fun bt507 => ((swashplateref01_Copy.f k l0_0 l0_1 l0_2).bind fun bt511 => ((spans_Worst.f bt511.1 bt511.2.1 bt511.2.2 a1_0 a1_1 a1_2 a1_3).bind fun bt520 => ((swashplateref01_Worst.f k l0_0 l0_1 l0_2 a1_0 a1_1 a1_2 a1_3).bind fun bt523 => (if (bt503.1 == bt507.1 && (bt503.2.1 == bt507.2.1)) = true then (if bt503.2.2 = bt507.2.2 then (if bt520.1 = bt523.1 then (if bt520.2.1 = bt523.2.1 then (if bt520.2.2 = bt523.2.2 then ((swashplatelaw01_works.f k).bind fun t526 => (some t526)) else (some false)) else (some false)) else (some false)) else (some false)) else (some false)))))))) = some r := by rw [if_neg (show ¬ (false = true) by decide)] at H; exact H
  clear H
  have H := H1
  clear H1
  replace H := Option.bind_eq_some_iff.mp H
  obtain ⟨⟨t494, t497, t500⟩, A120, H⟩ := H
  replace H : ((spans_Bound.f t494 t497 t500 a1_0 a1_1 a1_2 a1_3).bind fun bt503 => ((swashplateref01_Bound.f k l0_0 l0_1 l0_2 a1_0 a1_1 a1_2 a1_3).bind fun bt507 => ((swashplateref01_Copy.f k l0_0 l0_1 l0_2).bind fun bt511 => ((spans_Worst.f bt511.1 bt511.2.1 bt511.2.2 a1_0 a1_1 a1_2 a1_3).bind fun bt520 => ((swashplateref01_Worst.f k l0_0 l0_1 l0_2 a1_0 a1_1 a1_2 a1_3).bind fun bt523 => (if (bt503.1 == bt507.1 && (bt503.2.1 == bt507.2.1)) = true then (if bt503.2.2 = bt507.2.2 then (if bt520.1 = bt523.1 then (if bt520.2.1 = bt523.2.1 then (if bt520.2.2 = bt523.2.2 then ((swashplatelaw01_works.f k).bind fun t526 => (some t526)) else (some false)) else (some false)) else (some false)) else (some false)) else (some false))))))) = some r := H
  have A12 := Aside0.mk A120
  clear A120
  replace H := Option.bind_eq_some_iff.mp H
  obtain ⟨⟨t503, t504, t505⟩, A130, H⟩ := H
  replace H : ((swashplateref01_Bound.f k l0_0 l0_1 l0_2 a1_0 a1_1 a1_2 a1_3).bind fun bt507 => ((swashplateref01_Copy.f k l0_0 l0_1 l0_2).bind fun bt511 => ((spans_Worst.f bt511.1 bt511.2.1 bt511.2.2 a1_0 a1_1 a1_2 a1_3).bind fun bt520 => ((swashplateref01_Worst.f k l0_0 l0_1 l0_2 a1_0 a1_1 a1_2 a1_3).bind fun bt523 => (if (t503 == bt507.1 && (t504 == bt507.2.1)) = true then (if t505 = bt507.2.2 then (if bt520.1 = bt523.1 then (if bt520.2.1 = bt523.2.1 then (if bt520.2.2 = bt523.2.2 then ((swashplatelaw01_works.f k).bind fun t526 => (some t526)) else (some false)) else (some false)) else (some false)) else (some false)) else (some false)))))) = some r := H
  have A13 := Aside0.mk A130
  clear A130
  replace H := Option.bind_eq_some_iff.mp H
  obtain ⟨⟨t507, t508, t509⟩, A140, H⟩ := H
  replace H : ((swashplateref01_Copy.f k l0_0 l0_1 l0_2).bind fun bt511 => ((spans_Worst.f bt511.1 bt511.2.1 bt511.2.2 a1_0 a1_1 a1_2 a1_3).bind fun bt520 => ((swashplateref01_Worst.f k l0_0 l0_1 l0_2 a1_0 a1_1 a1_2 a1_3).bind fun bt523 => (if (t503 == t507 && (t504 == t508)) = true then (if t505 = t509 then (if bt520.1 = bt523.1 then (if bt520.2.1 = bt523.2.1 then (if bt520.2.2 = bt523.2.2 then ((swashplatelaw01_works.f k).bind fun t526 => (some t526)) else (some false)) else (some false)) else (some false)) else (some false)) else (some false))))) = some r := H
  have A14 := Aside0.mk A140
  clear A140
  replace H := Option.bind_eq_some_iff.mp H
  obtain ⟨⟨t511, t514, t517⟩, A150, H⟩ := H
  replace H : ((spans_Worst.f t511 t514 t517 a1_0 a1_1 a1_2 a1_3).bind fun bt520 => ((swashplateref01_Worst.f k l0_0 l0_1 l0_2 a1_0 a1_1 a1_2 a1_3).bind fun bt523 => (if (t503 == t507 && (t504 == t508)) = true then (if t505 = t509 then (if bt520.1 = bt523.1 then (if bt520.2.1 = bt523.2.1 then (if bt520.2.2 = bt523.2.2 then ((swashplatelaw01_works.f k).bind fun t526 => (some t526)) else (some false)) else (some false)) else (some false)) else (some false)) else (some false)))) = some r := H
  have A15 := Aside0.mk A150
  clear A150
  replace H := Option.bind_eq_some_iff.mp H
  obtain ⟨⟨t520, t521, t522⟩, A160, H⟩ := H
  replace H : ((swashplateref01_Worst.f k l0_0 l0_1 l0_2 a1_0 a1_1 a1_2 a1_3).bind fun bt523 => (if (t503 == t507 && (t504 == t508)) = true then (if t505 = t509 then (if t520 = bt523.1 then (if t521 = bt523.2.1 then (if t522 = bt523.2.2 then ((swashplatelaw01_works.f k).bind fun t526 => (some t526)) else (some false)) else (some false)) else (some false)) else (some false)) else (some false))) = some r := H
  have A16 := Aside0.mk A160
  clear A160
  replace H := Option.bind_eq_some_iff.mp H
  obtain ⟨⟨t523, t524, t525⟩, A170, H⟩ := H
  replace H : (if (t503 == t507 && (t504 == t508)) = true then (if t505 = t509 then (if t520 = t523 then (if t521 = t524 then (if t522 = t525 then ((swashplatelaw01_works.f k).bind fun t526 => (some t526)) else (some false)) else (some false)) else (some false)) else (some false)) else (some false)) = some r := H
  have A17 := Aside0.mk A170
  clear A170
  by_cases c18 : (t503 == t507 && (t504 == t508)) = true
  ·
   rw [if_pos c18] at H
   have c18b0 : (t503 == t507 && (t504 == t508)) = true := c18
   (try (have c18b1 : decide (t503 = t507 && (t504 == t508)) = true := by simpa using c18))
   (try (have c18b2 : (t503 == t507 && (t504 == t508)) = true := by simpa using c18))
   clear c18
   by_cases c19 : t505 = t509
   ·
    rw [if_pos c19] at H
    have c19b0 : (t505 == t509) = true := beq_iff_eq.mpr c19
    have c19b1 : (t505 != t509) = false := bne_eq_false_iff_eq.mpr c19
    clear c19
    by_cases c20 : t520 = t523
    ·
     rw [if_pos c20] at H
     have c20b0 : (t520 == t523) = true := beq_iff_eq.mpr c20
     have c20b1 : (t520 != t523) = false := bne_eq_false_iff_eq.mpr c20
     clear c20
     by_cases c21 : t521 = t524
     ·
      rw [if_pos c21] at H
      have c21b0 : (t521 == t524) = true := beq_iff_eq.mpr c21
      have c21b1 : (t521 != t524) = false := bne_eq_false_iff_eq.mpr c21
      clear c21
      by_cases c22 : t522 = t525
      ·
       rw [if_pos c22] at H
       have c22b0 : (t522 == t525) = true := beq_iff_eq.mpr c22
       have c22b1 : (t522 != t525) = false := bne_eq_false_iff_eq.mpr c22
       clear c22
       replace H := Option.bind_eq_some_iff.mp H
       obtain ⟨t526, A230, H⟩ := H
       replace H : (some t526) = some r := H
       have A23 := Aside0.mk A230
       clear A230
       obtain rfl := Option.some.inj H
       go_enter Try.func5, Try.ntmps5
       try go_wp2_with (first | ((with_reducible refine gate_dst (N := 2) rfl ?_); refine box_event ?hg (N := 2) ?hd (cs := #[.slice A0_0 l0_0.length c0_0, .slice A0_1 l0_1.length c0_1, .slice A0_2 l0_2.length c0_2]) (t := 25) ?hr ?_; (case hd => rfl); (case hg => rfl); (case hr => first | (go_simp; done) | (go_simp; rfl)); intro gb490 hg w24 hbox hb; have n0_ := Aside0.mk (below_step (bl_ HB.out) hb); have n1_ := Aside0.mk (hbox); have n2_ := Aside0.mk (szl_ hg HB.out); have n3_ := Aside0.mk (szl_ hg HB.out); clear HB; have HB := n0_; have BK490 := n1_; have GW490 := n2_; have GE490 := n3_; clear n0_ n1_ n2_ n3_ hb hbox hg) | ((with_reducible refine gate_dst (N := 3) rfl ?_); refine box_event ?hg (N := 3) ?hd (cs := #[.int .i64 a1_0, .int .i64 a1_1, .int .i64 a1_2, .int .i64 a1_3]) (t := 43) ?hr ?_; (case hd => rfl); (case hg => rfl); (case hr => first | (go_simp; done) | (go_simp; rfl)); intro gb491 hg w25 hbox hb; have n0_ := Aside0.mk (blk_below (bk_ BK490.out) hb); have n1_ := Aside0.mk (below_step (bl_ HB.out) hb); have n2_ := Aside0.mk (hbox); have n3_ := Aside0.mk (szl_ hg HB.out); have n4_ := Aside0.mk (szl_ hg HB.out); have n5_ := Aside0.mk (nel_ hg BK490.out); have n6_ := Aside0.mk (ner_ hg BK490.out); clear BK490 HB; have BK490 := n0_; have HB := n1_; have BK491 := n2_; have GW491 := n3_; have GE491 := n4_; have NB490_491 := n5_; have NB491_490 := n6_; clear n0_ n1_ n2_ n3_ n4_ n5_ n6_ hb hbox hg; have hnb26 := NB490_491.out; have hnc26 := NB491_490.out; have hcz27_0 : w25.cell? ⟨gb490, 0, none⟩ = some (.slice A0_0 l0_0.length c0_0) := (blk_cell BK490.out 0).trans rfl; have hcz27_1 : w25.cell? ⟨gb490, 1, none⟩ = some (.slice A0_1 l0_1.length c0_1) := (blk_cell BK490.out 1).trans rfl; have hcz27_2 : w25.cell? ⟨gb490, 2, none⟩ = some (.slice A0_2 l0_2.length c0_2) := (blk_cell BK490.out 2).trans rfl; have hfz27_0 := blk_frozen BK490.out 0; have hfz27_1 := blk_frozen BK490.out 1; have hfz27_2 := blk_frozen BK490.out 2) | ((with_reducible refine gate_callee (f := 20) rfl ?_); refine goesL_ (some 16) rfl rfl Try.func20 (by kernel_rfl) rfl #[.agg #[.slice A0_0 l0_0.length c0_0, .slice A0_1 l0_1.length c0_1, .slice A0_2 l0_2.length c0_2]] rfl (by (try simp only [List.map_toArray, List.map_cons, List.map_nil]); first | done | rfl | (simp only [List.length_drop, List.length_take]; rfl)) ?_; (with_reducible refine (swashplatelaw01_Far.calls k _ _ l0_0 _ _ l0_1 _ _ l0_2 false _ ?side1 ?side2 ?side3 ?side4 ?side5 ?side6 A3.out).mono ?_); (case side1 => exact cr_ (Kd.C_below HR0_0.out HB.out)); (case side2 => exact HC0_0.out); (case side3 => exact cr_ (Kd.C_below HR0_1.out HB.out)); (case side4 => exact HC0_1.out); (case side5 => exact cr_ (Kd.C_below HR0_2.out HB.out)); (case side6 => exact HC0_2.out); rintro e w28 ⟨rfl, hb⟩; refine ⟨_, rfl, ?_⟩; have n0_ := Aside0.mk (blk_below (bk_ BK490.out) hb); have n1_ := Aside0.mk (blk_below (bk_ BK491.out) hb); have n2_ := Aside0.mk (below_step (bl_ HB.out) hb); clear BK490 BK491 HB; have BK490 := n0_; have BK491 := n1_; have HB := n2_; clear n0_ n1_ n2_; (try clear hb); (try clear hb2); (try clear hk); (try clear hi)))
       have n0_ := Aside0.mk (blk_drew BK490.out)
       have n1_ := Aside0.mk (blk_drew BK491.out)
       have n2_ := Aside0.mk (below_drew1 HB.out)
       clear BK490 BK491 HB
       have BK490 := n0_
       have BK491 := n1_
       have HB := n2_
       clear n0_ n1_ n2_
       refine start_ (n := 13) (S := fun w' => w'.cell? ⟨gb490, 0, none⟩ = some (.slice A0_0 l0_0.length c0_0) ∧ w'.cell? ⟨gb490, 1, none⟩ = some (.slice A0_1 l0_1.length c0_1) ∧ w'.cell? ⟨gb490, 2, none⟩ = some (.slice A0_2 l0_2.length c0_2) ∧ w'.cell? ⟨gb491, 0, none⟩ = some (.int .i64 a1_0) ∧ w'.cell? ⟨gb491, 1, none⟩ = some (.int .i64 a1_1) ∧ w'.cell? ⟨gb491, 2, none⟩ = some (.int .i64 a1_2) ∧ w'.cell? ⟨gb491, 3, none⟩ = some (.int .i64 a1_3)) (ds := []) #[false, false, false, false, false, false, false, false, false, false, false, false, false] (by kernel_rfl) rfl rfl ⟨(blk_cell BK490.out 0).trans rfl, (blk_cell BK490.out 1).trans rfl, (blk_cell BK490.out 2).trans rfl, (blk_cell BK491.out 0).trans rfl, (blk_cell BK491.out 1).trans rfl, (blk_cell BK491.out 2).trans rfl, (blk_cell BK491.out 3).trans rfl⟩ (fun hHeld => ?_); refine with_tabW swashplatelaw01_SpansBounds.tab3 swashplatelaw01_SpansBounds.bits3 (fun HT_ HW_ => ?_)
       generalize w28.drew = w29 at BK490 BK491 HB hHeld ⊢
       refine pure_ (i := 2) (N := some 21) (v := ?_) (a' := ?_) #[false, false, true, false, false, false, false, false, false, false, false, false, false] rfl rfl (any_of HT_.out (by kernel_rfl)) (fun _ _ _ h => h) (Or.inl ⟨by rfl, ?_⟩) ?_ ?_
       rotate_left
       ·
        intro w'
        go_simp
        with_reducible rfl
       rotate_left
       ·
        simp only [Act.put, List.setIfInBounds_toArray, List.set_cons_zero, List.set_cons_succ, i64_w, i32_w]
        rfl
       refine pure_ (i := 4) (N := some 23) (v := ?_) (a' := ?_) #[false, false, true, false, true, false, false, false, false, false, false, false, false] rfl rfl (any_of HT_.out (by kernel_rfl)) (fun _ _ _ h => h) (Or.inl ⟨by rfl, ?_⟩) ?_ ?_
       rotate_left
       ·
        intro w'
        go_simp
        with_reducible rfl
       rotate_left
       ·
        simp only [Act.put, List.setIfInBounds_toArray, List.set_cons_zero, List.set_cons_succ, i64_w, i32_w]
        rfl
       refine take_ (i := 0) (N := some 19) (v := ?_) (a' := ?_) #[true, false, true, false, true, false, false, false, false, false, false, false, false] rfl rfl (take_ofW HT_.out HW_.out (by kernel_rfl)) (fun _ _ _ h => h) (Or.inl ⟨by rfl, ?_⟩) hHeld ?_ ?_
       rotate_left
       ·
        rintro w' ⟨s0, s1, s2, s3, s4, s5, s6⟩
        go_simp
        with_reducible rfl
       rotate_left
       ·
        simp only [Act.put, List.setIfInBounds_toArray, List.set_cons_zero, List.set_cons_succ, i64_w, i32_w]
        rfl
       refine take_ (i := 3) (N := some 22) (v := ?_) (a' := ?_) #[true, false, true, true, true, false, false, false, false, false, false, false, false] rfl rfl (take_ofW HT_.out HW_.out (by kernel_rfl)) (fun _ _ _ h => h) (Or.inl ⟨by rfl, ?_⟩) hHeld ?_ ?_
       rotate_left
       ·
        rintro w' ⟨s0, s1, s2, s3, s4, s5, s6⟩
        go_simp
        with_reducible rfl
       rotate_left
       ·
        simp only [Act.put, List.setIfInBounds_toArray, List.set_cons_zero, List.set_cons_succ, i64_w, i32_w]
        rfl
       refine take_ (i := 5) (N := some 24) (v := ?_) (a' := ?_) #[true, false, true, true, true, true, false, false, false, false, false, false, false] rfl rfl (take_ofW HT_.out HW_.out (by kernel_rfl)) (fun _ _ _ h => h) (Or.inl ⟨by rfl, ?_⟩) hHeld ?_ ?_
       rotate_left
       ·
        rintro w' ⟨s0, s1, s2, s3, s4, s5, s6⟩
        go_simp
        with_reducible rfl
       rotate_left
       ·
        simp only [Act.put, List.setIfInBounds_toArray, List.set_cons_zero, List.set_cons_succ, i64_w, i32_w]
        rfl
       refine join_ (σ := Value × Value × Value × Nat) 2 #[true, true, true, true, true, true, true, true, true, true, true, false, false] (fun s_ => [(20, .agg #[s_.1, s_.2.1, s_.2.2.1]), (25, .tuple #[.agg #[.int .i64 t503, .int .i64 t504], .int .i64 t505]), (5, .pointer (some ⟨s_.2.2.2, 0, none⟩)), (18, .tuple #[.agg #[.int .i64 t503, .int .i64 t504], .int .i64 t505]), (26, .agg #[.int .i64 t503, .int .i64 t504]), (27, .int .i64 t505)]) (fun s_ w' => (w'.cell? ⟨gb490, 0, none⟩ = some (.slice A0_0 l0_0.length c0_0) ∧ w'.cell? ⟨gb490, 1, none⟩ = some (.slice A0_1 l0_1.length c0_1) ∧ w'.cell? ⟨gb490, 2, none⟩ = some (.slice A0_2 l0_2.length c0_2) ∧ w'.cell? ⟨gb491, 0, none⟩ = some (.int .i64 a1_0) ∧ w'.cell? ⟨gb491, 1, none⟩ = some (.int .i64 a1_1) ∧ w'.cell? ⟨gb491, 2, none⟩ = some (.int .i64 a1_2) ∧ w'.cell? ⟨gb491, 3, none⟩ = some (.int .i64 a1_3)) ∧ (Kd.R (Kd.int .i64) 3 w' w.heap.size (fun k_ => some k_ ≠ (s_.2.1 : Value).ownBlock) s_.1 t494) ∧ (Kd.R (Kd.int .i64) 3 w' w.heap.size (fun k_ => some k_ ≠ (s_.1 : Value).ownBlock) s_.2.1 t497) ∧ (Kd.S (Kd.slice 3 (Kd.int .i64)) 22 w' w.heap.size (fun k_ => some k_ ≠ (s_.1 : Value).ownBlock ∧ some k_ ≠ (s_.2.1 : Value).ownBlock) s_.2.2.1 t500) ∧ (w'.heap[gb490]? = some (.cells #[.slice A0_0 l0_0.length c0_0, .slice A0_1 l0_1.length c0_1, .slice A0_2 l0_2.length c0_2] 25 (0, 0))) ∧ (w'.heap[gb491]? = some (.cells #[.int .i64 a1_0, .int .i64 a1_1, .int .i64 a1_2, .int .i64 a1_3] 43 (0, 0))) ∧ (w'.heap[s_.2.2.2]? = some (.cells #[.int .i64 0, .int .i64 0] 27 (0, 0))) ∧ (w.heap.size ≤ s_.2.2.2) ∧ (w.heap.size ≤ s_.2.2.2) ∧ (gb490 ≠ s_.2.2.2) ∧ (s_.2.2.2 ≠ gb490) ∧ (gb491 ≠ s_.2.2.2) ∧ (s_.2.2.2 ≠ gb491) ∧ (Below w.heap.size w w')) ?_ ?_
       rotate_left
       ·
        intro hCont
        refine two_ (i := 1) (j := 10) (Ni := some 20) (Nj := some 5) #[true, true, true, true, true, true, false, false, false, false, false, false, false] #[true, false, true, true, true, true, false, false, false, false, true, false, false] rfl rfl rfl rfl (two_of HT_.out (by kernel_rfl)) (by decide) (by decide) (fun K hK => ?_) (fun K hK => ?_)
        ·
         skip
         refine goes_ Try.func24 (by kernel_rfl) rfl #[.agg #[.slice A0_0 l0_0.length c0_0, .slice A0_1 l0_1.length c0_1, .slice A0_2 l0_2.length c0_2]] (by rfl) rfl rfl (by (try simp only [List.map_toArray, List.map_cons, List.map_nil]); first | done | rfl | (simp only [List.length_drop, List.length_take]; rfl)) ?_
         with_reducible refine (swashplateref01_Copy.calls k _ _ l0_0 _ _ l0_1 _ _ l0_2 t494 t497 t500 _ ?side1 ?side2 ?side3 ?side4 ?side5 ?side6 A12.out).mono ?_
         (case side1 => exact cr_ (Kd.C_below HR0_0.out HB.out))
         (case side2 => exact HC0_0.out)
         (case side3 => exact cr_ (Kd.C_below HR0_1.out HB.out))
         (case side4 => exact HC0_1.out)
         (case side5 => exact cr_ (Kd.C_below HR0_2.out HB.out))
         (case side6 => exact HC0_2.out)
         rintro e w30 ⟨v495, v498, v501, rfl, ho0, ho1, ho2, hb⟩
         refine ⟨_, rfl, ?_⟩
         have n0_ := Aside0.mk (Kd.R_lower ho0 (below_size (bl_ HB.out)))
         have n1_ := Aside0.mk (Kd.R_lower ho1 (below_size (bl_ HB.out)))
         have n2_ := Aside0.mk (Kd.S_lower ho2 (below_size (bl_ HB.out)))
         have n3_ := Aside0.mk (blk_below (bk_ BK490.out) hb)
         have n4_ := Aside0.mk (blk_below (bk_ BK491.out) hb)
         have n5_ := Aside0.mk (below_step (bl_ HB.out) hb)
         clear BK490 BK491 HB
         have HO496 := n0_
         have HO499 := n1_
         have HO502 := n2_
         have BK490 := n3_
         have BK491 := n4_
         have HB := n5_
         clear n0_ n1_ n2_ n3_ n4_ n5_
         (try clear hb)
         (try clear hb2)
         (try clear hk)
         (try clear hi)
         (try clear ho0)
         (try clear ho1)
         (try clear ho2)
         obtain ⟨Ao31, co31, eo31⟩ := Kd.R_slice HO496.out
         (first | subst eo31 | (injection eo31 with f1_ f2_ f3_; have f4_ := f1_.symm; have f5_ := f3_.symm; clear f1_ f2_ f3_; subst f4_; subst f5_))
         obtain ⟨Ao32, co32, eo32⟩ := Kd.R_slice HO499.out
         (first | subst eo32 | (injection eo32 with f1_ f2_ f3_; have f4_ := f1_.symm; have f5_ := f3_.symm; clear f1_ f2_ f3_; subst f4_; subst f5_))
         obtain ⟨Ao33, co33, eo33⟩ := Kd.S_slice HO502.out
         (first | subst eo33 | (injection eo33 with f1_ f2_ f3_; have f4_ := f1_.symm; have f5_ := f3_.symm; clear f1_ f2_ f3_; subst f4_; subst f5_))
         refine hK.out _ _ ⟨(blk_cell BK490.out 0).trans rfl, (blk_cell BK490.out 1).trans rfl, (blk_cell BK490.out 2).trans rfl, (blk_cell BK491.out 0).trans rfl, (blk_cell BK491.out 1).trans rfl, (blk_cell BK491.out 2).trans rfl, (blk_cell BK491.out 3).trans rfl⟩ (fun hHeld => ?_)
         clear hK K
         refine norm_ (a' := ?_) ?_ ?_
         rotate_left
         ·
          show Act.put _ (some 20) _ = _
          simp only [Act.put, List.setIfInBounds_toArray, List.set_cons_zero, List.set_cons_succ, i64_w, i32_w]
          rfl
         refine two_ (i := 6) (j := 10) (Ni := some 25) (Nj := some 5) #[true, true, true, true, true, true, true, false, false, false, false, false, false] #[true, true, true, true, true, true, false, false, false, false, true, false, false] rfl rfl rfl rfl (two_of HT_.out (by kernel_rfl)) (by decide) (by decide) (fun K hK => ?_) (fun K hK => ?_)
         ·
          skip
          refine goes_ Try.func30 (by kernel_rfl) rfl #[.agg #[.slice Ao31 t494.length co31, .slice Ao32 t497.length co32, .slice Ao33 t500.length co33], .agg #[.int .i64 a1_0, .int .i64 a1_1], .agg #[.int .i64 a1_2, .int .i64 a1_3]] (by rfl) rfl rfl (by (try simp only [List.map_toArray, List.map_cons, List.map_nil]); first | done | rfl | (simp only [List.length_drop, List.length_take]; rfl)) ?_
          with_reducible refine (spans_Bound.calls _ _ t494 _ _ t497 _ _ t500 a1_0 a1_1 a1_2 a1_3 t503 t504 t505 _ ?side1 ?side2 ?side3 ?side4 ?side5 ?side6 A13.out).mono ?_
          (case side1 => exact cr_ (Kd.R_reads' HO496.out).2.2)
          (case side2 => exact (Kd.R_reads' HO496.out).2.1)
          (case side3 => exact cr_ (Kd.R_reads' HO499.out).2.2)
          (case side4 => exact (Kd.R_reads' HO499.out).2.1)
          (case side5 => exact cr_ (Kd.S_reads' HO502.out).2.2)
          (case side6 => exact (Kd.S_reads' HO502.out).2.1)
          rintro e w34 ⟨rfl, hb⟩
          refine ⟨_, rfl, ?_⟩
          have n0_ := Aside0.mk (Kd.R_below (by (with_reducible repeat (first | apply Kd.R_alloc | apply Kd.R_drewN | apply Kd.R_drew)); exact HO496.out) hb)
          have n1_ := Aside0.mk (Kd.R_below (by (with_reducible repeat (first | apply Kd.R_alloc | apply Kd.R_drewN | apply Kd.R_drew)); exact HO499.out) hb)
          have n2_ := Aside0.mk (Kd.S_below (by (with_reducible repeat (first | apply Kd.S_alloc | apply Kd.S_drewN | apply Kd.S_drew)); exact HO502.out) hb)
          have n3_ := Aside0.mk (blk_below (bk_ BK490.out) hb)
          have n4_ := Aside0.mk (blk_below (bk_ BK491.out) hb)
          have n5_ := Aside0.mk (below_step (bl_ HB.out) hb)
          clear HO496 HO499 HO502 BK490 BK491 HB
          have HO496 := n0_
          have HO499 := n1_
          have HO502 := n2_
          have BK490 := n3_
          have BK491 := n4_
          have HB := n5_
          clear n0_ n1_ n2_ n3_ n4_ n5_
          (try clear hb)
          (try clear hb2)
          (try clear hk)
          (try clear hi)
          refine hK.out _ _ ⟨(blk_cell BK490.out 0).trans rfl, (blk_cell BK490.out 1).trans rfl, (blk_cell BK490.out 2).trans rfl, (blk_cell BK491.out 0).trans rfl, (blk_cell BK491.out 1).trans rfl, (blk_cell BK491.out 2).trans rfl, (blk_cell BK491.out 3).trans rfl⟩ (fun hHeld => ?_)
          clear hK K
          refine norm_ (a' := ?_) ?_ ?_
          rotate_left
          ·
           show Act.put _ (some 25) _ = _
           simp only [Act.put, List.setIfInBounds_toArray, List.set_cons_zero, List.set_cons_succ, i64_w, i32_w]
           rfl
          refine pure_ (i := 7) (N := some 18) (v := ?_) (a' := ?_) #[true, true, true, true, true, true, true, true, false, false, false, false, false] rfl rfl (any_of HT_.out (by kernel_rfl)) (fun _ _ _ h => h) (Or.inl ⟨by rfl, ?_⟩) ?_ ?_
          rotate_left
          ·
           intro w'
           go_simp
           with_reducible rfl
          rotate_left
          ·
           simp only [Act.put, List.setIfInBounds_toArray, List.set_cons_zero, List.set_cons_succ, i64_w, i32_w]
           rfl
          refine pure_ (i := 8) (N := some 26) (v := ?_) (a' := ?_) #[true, true, true, true, true, true, true, true, true, false, false, false, false] rfl rfl (any_of HT_.out (by kernel_rfl)) (fun _ _ _ h => h) (Or.inl ⟨by rfl, ?_⟩) ?_ ?_
          rotate_left
          ·
           intro w'
           go_simp
           with_reducible rfl
          rotate_left
          ·
           simp only [Act.put, List.setIfInBounds_toArray, List.set_cons_zero, List.set_cons_succ, i64_w, i32_w]
           rfl
          refine pure_ (i := 9) (N := some 27) (v := ?_) (a' := ?_) #[true, true, true, true, true, true, true, true, true, true, false, false, false] rfl rfl (any_of HT_.out (by kernel_rfl)) (fun _ _ _ h => h) (Or.inl ⟨by rfl, ?_⟩) ?_ ?_
          rotate_left
          ·
           intro w'
           go_simp
           with_reducible rfl
          rotate_left
          ·
           simp only [Act.put, List.setIfInBounds_toArray, List.set_cons_zero, List.set_cons_succ, i64_w, i32_w]
           rfl
          refine one_ (i := 10) (N := some 5) #[true, true, true, true, true, true, true, true, true, true, true, false, false] rfl rfl (one_of HT_.out (by kernel_rfl)) (by decide) (fun K hK => ?_)
          refine box_step ?hg (N := 5) ?hd (cs := #[.int .i64 0, .int .i64 0]) (t := 27) ?hr ?_; (case hd => rfl); (case hg => rfl); (case hr => first | (go_simp; done) | (go_simp; rfl))
          intro gb506 hg w35 hbox hb
          have n0_ := Aside0.mk (Kd.R_below (by (with_reducible repeat (first | apply Kd.R_alloc | apply Kd.R_drewN | apply Kd.R_drew)); exact HO496.out) hb)
          have n1_ := Aside0.mk (Kd.R_below (by (with_reducible repeat (first | apply Kd.R_alloc | apply Kd.R_drewN | apply Kd.R_drew)); exact HO499.out) hb)
          have n2_ := Aside0.mk (Kd.S_below (by (with_reducible repeat (first | apply Kd.S_alloc | apply Kd.S_drewN | apply Kd.S_drew)); exact HO502.out) hb)
          have n3_ := Aside0.mk (blk_below (bk_ BK490.out) hb)
          have n4_ := Aside0.mk (blk_below (bk_ BK491.out) hb)
          have n5_ := Aside0.mk (below_step (bl_ HB.out) hb)
          have n6_ := Aside0.mk (hbox)
          have n7_ := Aside0.mk (szl_ hg HB.out)
          have n8_ := Aside0.mk (szl_ hg HB.out)
          have n9_ := Aside0.mk (nel_ hg BK490.out)
          have n10_ := Aside0.mk (ner_ hg BK490.out)
          have n11_ := Aside0.mk (nel_ hg BK491.out)
          have n12_ := Aside0.mk (ner_ hg BK491.out)
          clear HO496 HO499 HO502 BK490 BK491 HB
          have HO496 := n0_
          have HO499 := n1_
          have HO502 := n2_
          have BK490 := n3_
          have BK491 := n4_
          have HB := n5_
          have BK506 := n6_
          have GW506 := n7_
          have GE506 := n8_
          have NB490_506 := n9_
          have NB506_490 := n10_
          have NB491_506 := n11_
          have NB506_491 := n12_
          clear n0_ n1_ n2_ n3_ n4_ n5_ n6_ n7_ n8_ n9_ n10_ n11_ n12_ hb hbox hg
          refine hK.out _ _ ⟨(blk_cell BK490.out 0).trans rfl, (blk_cell BK490.out 1).trans rfl, (blk_cell BK490.out 2).trans rfl, (blk_cell BK491.out 0).trans rfl, (blk_cell BK491.out 1).trans rfl, (blk_cell BK491.out 2).trans rfl, (blk_cell BK491.out 3).trans rfl⟩ (fun hHeld => ?_)
          clear hK K
          refine norm_ (a' := ?_) ?_ ?_
          rotate_left
          ·
           show Act.put _ (some 5) _ = _
           simp only [Act.put, List.setIfInBounds_toArray, List.set_cons_zero, List.set_cons_succ, i64_w, i32_w]
           rfl
          exact norm_ (by simp only [putAll, Act.put, List.setIfInBounds_toArray, List.set_cons_zero, List.set_cons_succ]) (hCont (.slice Ao31 t494.length co31, .slice Ao32 t497.length co32, .slice Ao33 t500.length co33, gb506) _ ⟨hHeld, (by (with_reducible repeat (first | apply Kd.R_alloc | apply Kd.R_drewN | apply Kd.R_drew)); exact HO496.out), (by (with_reducible repeat (first | apply Kd.R_alloc | apply Kd.R_drewN | apply Kd.R_drew)); exact HO499.out), (by (with_reducible repeat (first | apply Kd.S_alloc | apply Kd.S_drewN | apply Kd.S_drew)); exact HO502.out), (bk_ BK490.out), (bk_ BK491.out), (bk_ BK506.out), GW506.out, GE506.out, NB490_506.out, NB506_490.out, NB491_506.out, NB506_491.out, (bl_ HB.out)⟩)
         ·
          skip
          refine box_step ?hg (N := 5) ?hd (cs := #[.int .i64 0, .int .i64 0]) (t := 27) ?hr ?_; (case hd => rfl); (case hg => rfl); (case hr => first | (go_simp; done) | (go_simp; rfl))
          intro gb506 hg w31 hbox hb
          have n0_ := Aside0.mk (Kd.R_below (by (with_reducible repeat (first | apply Kd.R_alloc | apply Kd.R_drewN | apply Kd.R_drew)); exact HO496.out) hb)
          have n1_ := Aside0.mk (Kd.R_below (by (with_reducible repeat (first | apply Kd.R_alloc | apply Kd.R_drewN | apply Kd.R_drew)); exact HO499.out) hb)
          have n2_ := Aside0.mk (Kd.S_below (by (with_reducible repeat (first | apply Kd.S_alloc | apply Kd.S_drewN | apply Kd.S_drew)); exact HO502.out) hb)
          have n3_ := Aside0.mk (blk_below (bk_ BK490.out) hb)
          have n4_ := Aside0.mk (blk_below (bk_ BK491.out) hb)
          have n5_ := Aside0.mk (below_step (bl_ HB.out) hb)
          have n6_ := Aside0.mk (hbox)
          have n7_ := Aside0.mk (szl_ hg HB.out)
          have n8_ := Aside0.mk (szl_ hg HB.out)
          have n9_ := Aside0.mk (nel_ hg BK490.out)
          have n10_ := Aside0.mk (ner_ hg BK490.out)
          have n11_ := Aside0.mk (nel_ hg BK491.out)
          have n12_ := Aside0.mk (ner_ hg BK491.out)
          clear HO496 HO499 HO502 BK490 BK491 HB
          have HO496 := n0_
          have HO499 := n1_
          have HO502 := n2_
          have BK490 := n3_
          have BK491 := n4_
          have HB := n5_
          have BK506 := n6_
          have GW506 := n7_
          have GE506 := n8_
          have NB490_506 := n9_
          have NB506_490 := n10_
          have NB491_506 := n11_
          have NB506_491 := n12_
          clear n0_ n1_ n2_ n3_ n4_ n5_ n6_ n7_ n8_ n9_ n10_ n11_ n12_ hb hbox hg
          obtain ⟨Ao32, co32, eo32⟩ := Kd.R_slice HO496.out
          (first | subst eo32 | (injection eo32 with f1_ f2_ f3_; have f4_ := f1_.symm; have f5_ := f3_.symm; clear f1_ f2_ f3_; subst f4_; subst f5_))
          obtain ⟨Ao33, co33, eo33⟩ := Kd.R_slice HO499.out
          (first | subst eo33 | (injection eo33 with f1_ f2_ f3_; have f4_ := f1_.symm; have f5_ := f3_.symm; clear f1_ f2_ f3_; subst f4_; subst f5_))
          obtain ⟨Ao34, co34, eo34⟩ := Kd.S_slice HO502.out
          (first | subst eo34 | (injection eo34 with f1_ f2_ f3_; have f4_ := f1_.symm; have f5_ := f3_.symm; clear f1_ f2_ f3_; subst f4_; subst f5_))
          refine hK.out _ _ ⟨(blk_cell BK490.out 0).trans rfl, (blk_cell BK490.out 1).trans rfl, (blk_cell BK490.out 2).trans rfl, (blk_cell BK491.out 0).trans rfl, (blk_cell BK491.out 1).trans rfl, (blk_cell BK491.out 2).trans rfl, (blk_cell BK491.out 3).trans rfl⟩ (fun hHeld => ?_)
          clear hK K
          refine norm_ (a' := ?_) ?_ ?_
          rotate_left
          ·
           show Act.put _ (some 5) _ = _
           simp only [Act.put, List.setIfInBounds_toArray, List.set_cons_zero, List.set_cons_succ, i64_w, i32_w]
           rfl
          refine one_ (i := 6) (N := some 25) #[true, true, true, true, true, true, true, false, false, false, true, false, false] rfl rfl (one_of HT_.out (by kernel_rfl)) (by decide) (fun K hK => ?_)
          refine goes_ Try.func30 (by kernel_rfl) rfl #[.agg #[.slice Ao32 t494.length co32, .slice Ao33 t497.length co33, .slice Ao34 t500.length co34], .agg #[.int .i64 a1_0, .int .i64 a1_1], .agg #[.int .i64 a1_2, .int .i64 a1_3]] (by rfl) rfl rfl (by (try simp only [List.map_toArray, List.map_cons, List.map_nil]); first | done | rfl | (simp only [List.length_drop, List.length_take]; rfl)) ?_
          with_reducible refine (spans_Bound.calls _ _ t494 _ _ t497 _ _ t500 a1_0 a1_1 a1_2 a1_3 t503 t504 t505 _ ?side1 ?side2 ?side3 ?side4 ?side5 ?side6 A13.out).mono ?_
          (case side1 => exact cr_ (Kd.R_reads' HO496.out).2.2)
          (case side2 => exact (Kd.R_reads' HO496.out).2.1)
          (case side3 => exact cr_ (Kd.R_reads' HO499.out).2.2)
          (case side4 => exact (Kd.R_reads' HO499.out).2.1)
          (case side5 => exact cr_ (Kd.S_reads' HO502.out).2.2)
          (case side6 => exact (Kd.S_reads' HO502.out).2.1)
          rintro e w35 ⟨rfl, hb⟩
          refine ⟨_, rfl, ?_⟩
          have n0_ := Aside0.mk (Kd.R_below (by (with_reducible repeat (first | apply Kd.R_alloc | apply Kd.R_drewN | apply Kd.R_drew)); exact HO496.out) hb)
          have n1_ := Aside0.mk (Kd.R_below (by (with_reducible repeat (first | apply Kd.R_alloc | apply Kd.R_drewN | apply Kd.R_drew)); exact HO499.out) hb)
          have n2_ := Aside0.mk (Kd.S_below (by (with_reducible repeat (first | apply Kd.S_alloc | apply Kd.S_drewN | apply Kd.S_drew)); exact HO502.out) hb)
          have n3_ := Aside0.mk (blk_below (bk_ BK490.out) hb)
          have n4_ := Aside0.mk (blk_below (bk_ BK491.out) hb)
          have n5_ := Aside0.mk (blk_below (bk_ BK506.out) hb)
          have n6_ := Aside0.mk (below_step (bl_ HB.out) hb)
          clear HO496 HO499 HO502 BK490 BK491 BK506 HB
          have HO496 := n0_
          have HO499 := n1_
          have HO502 := n2_
          have BK490 := n3_
          have BK491 := n4_
          have BK506 := n5_
          have HB := n6_
          clear n0_ n1_ n2_ n3_ n4_ n5_ n6_
          (try clear hb)
          (try clear hb2)
          (try clear hk)
          (try clear hi)
          refine hK.out _ _ ⟨(blk_cell BK490.out 0).trans rfl, (blk_cell BK490.out 1).trans rfl, (blk_cell BK490.out 2).trans rfl, (blk_cell BK491.out 0).trans rfl, (blk_cell BK491.out 1).trans rfl, (blk_cell BK491.out 2).trans rfl, (blk_cell BK491.out 3).trans rfl⟩ (fun hHeld => ?_)
          clear hK K
          refine norm_ (a' := ?_) ?_ ?_
          rotate_left
          ·
           show Act.put _ (some 25) _ = _
           simp only [Act.put, List.setIfInBounds_toArray, List.set_cons_zero, List.set_cons_succ, i64_w, i32_w]
           rfl
          refine pure_ (i := 7) (N := some 18) (v := ?_) (a' := ?_) #[true, true, true, true, true, true, true, true, false, false, true, false, false] rfl rfl (any_of HT_.out (by kernel_rfl)) (fun _ _ _ h => h) (Or.inl ⟨by rfl, ?_⟩) ?_ ?_
          rotate_left
          ·
           intro w'
           go_simp
           with_reducible rfl
          rotate_left
          ·
           simp only [Act.put, List.setIfInBounds_toArray, List.set_cons_zero, List.set_cons_succ, i64_w, i32_w]
           rfl
          refine pure_ (i := 8) (N := some 26) (v := ?_) (a' := ?_) #[true, true, true, true, true, true, true, true, true, false, true, false, false] rfl rfl (any_of HT_.out (by kernel_rfl)) (fun _ _ _ h => h) (Or.inl ⟨by rfl, ?_⟩) ?_ ?_
          rotate_left
          ·
           intro w'
           go_simp
           with_reducible rfl
          rotate_left
          ·
           simp only [Act.put, List.setIfInBounds_toArray, List.set_cons_zero, List.set_cons_succ, i64_w, i32_w]
           rfl
          refine pure_ (i := 9) (N := some 27) (v := ?_) (a' := ?_) #[true, true, true, true, true, true, true, true, true, true, true, false, false] rfl rfl (any_of HT_.out (by kernel_rfl)) (fun _ _ _ h => h) (Or.inl ⟨by rfl, ?_⟩) ?_ ?_
          rotate_left
          ·
           intro w'
           go_simp
           with_reducible rfl
          rotate_left
          ·
           simp only [Act.put, List.setIfInBounds_toArray, List.set_cons_zero, List.set_cons_succ, i64_w, i32_w]
           rfl
          exact norm_ (by simp only [putAll, Act.put, List.setIfInBounds_toArray, List.set_cons_zero, List.set_cons_succ]) (hCont (.slice Ao32 t494.length co32, .slice Ao33 t497.length co33, .slice Ao34 t500.length co34, gb506) _ ⟨hHeld, (by (with_reducible repeat (first | apply Kd.R_alloc | apply Kd.R_drewN | apply Kd.R_drew)); exact HO496.out), (by (with_reducible repeat (first | apply Kd.R_alloc | apply Kd.R_drewN | apply Kd.R_drew)); exact HO499.out), (by (with_reducible repeat (first | apply Kd.S_alloc | apply Kd.S_drewN | apply Kd.S_drew)); exact HO502.out), (bk_ BK490.out), (bk_ BK491.out), (bk_ BK506.out), GW506.out, GE506.out, NB490_506.out, NB506_490.out, NB491_506.out, NB506_491.out, (bl_ HB.out)⟩)
        ·
         skip
         refine box_step ?hg (N := 5) ?hd (cs := #[.int .i64 0, .int .i64 0]) (t := 27) ?hr ?_; (case hd => rfl); (case hg => rfl); (case hr => first | (go_simp; done) | (go_simp; rfl))
         intro gb506 hg w30 hbox hb
         have n0_ := Aside0.mk (blk_below (bk_ BK490.out) hb)
         have n1_ := Aside0.mk (blk_below (bk_ BK491.out) hb)
         have n2_ := Aside0.mk (below_step (bl_ HB.out) hb)
         have n3_ := Aside0.mk (hbox)
         have n4_ := Aside0.mk (szl_ hg HB.out)
         have n5_ := Aside0.mk (szl_ hg HB.out)
         have n6_ := Aside0.mk (nel_ hg BK490.out)
         have n7_ := Aside0.mk (ner_ hg BK490.out)
         have n8_ := Aside0.mk (nel_ hg BK491.out)
         have n9_ := Aside0.mk (ner_ hg BK491.out)
         clear BK490 BK491 HB
         have BK490 := n0_
         have BK491 := n1_
         have HB := n2_
         have BK506 := n3_
         have GW506 := n4_
         have GE506 := n5_
         have NB490_506 := n6_
         have NB506_490 := n7_
         have NB491_506 := n8_
         have NB506_491 := n9_
         clear n0_ n1_ n2_ n3_ n4_ n5_ n6_ n7_ n8_ n9_ hb hbox hg
         refine hK.out _ _ ⟨(blk_cell BK490.out 0).trans rfl, (blk_cell BK490.out 1).trans rfl, (blk_cell BK490.out 2).trans rfl, (blk_cell BK491.out 0).trans rfl, (blk_cell BK491.out 1).trans rfl, (blk_cell BK491.out 2).trans rfl, (blk_cell BK491.out 3).trans rfl⟩ (fun hHeld => ?_)
         clear hK K
         refine norm_ (a' := ?_) ?_ ?_
         rotate_left
         ·
          show Act.put _ (some 5) _ = _
          simp only [Act.put, List.setIfInBounds_toArray, List.set_cons_zero, List.set_cons_succ, i64_w, i32_w]
          rfl
         refine one_ (i := 1) (N := some 20) #[true, true, true, true, true, true, false, false, false, false, true, false, false] rfl rfl (one_of HT_.out (by kernel_rfl)) (by decide) (fun K hK => ?_)
         refine goes_ Try.func24 (by kernel_rfl) rfl #[.agg #[.slice A0_0 l0_0.length c0_0, .slice A0_1 l0_1.length c0_1, .slice A0_2 l0_2.length c0_2]] (by rfl) rfl rfl (by (try simp only [List.map_toArray, List.map_cons, List.map_nil]); first | done | rfl | (simp only [List.length_drop, List.length_take]; rfl)) ?_
         with_reducible refine (swashplateref01_Copy.calls k _ _ l0_0 _ _ l0_1 _ _ l0_2 t494 t497 t500 _ ?side1 ?side2 ?side3 ?side4 ?side5 ?side6 A12.out).mono ?_
         (case side1 => exact cr_ (Kd.C_below HR0_0.out HB.out))
         (case side2 => exact HC0_0.out)
         (case side3 => exact cr_ (Kd.C_below HR0_1.out HB.out))
         (case side4 => exact HC0_1.out)
         (case side5 => exact cr_ (Kd.C_below HR0_2.out HB.out))
         (case side6 => exact HC0_2.out)
         rintro e w31 ⟨v495, v498, v501, rfl, ho0, ho1, ho2, hb⟩
         refine ⟨_, rfl, ?_⟩
         have n0_ := Aside0.mk (Kd.R_lower ho0 (below_size (bl_ HB.out)))
         have n1_ := Aside0.mk (Kd.R_lower ho1 (below_size (bl_ HB.out)))
         have n2_ := Aside0.mk (Kd.S_lower ho2 (below_size (bl_ HB.out)))
         have n3_ := Aside0.mk (blk_below (bk_ BK490.out) hb)
         have n4_ := Aside0.mk (blk_below (bk_ BK491.out) hb)
         have n5_ := Aside0.mk (blk_below (bk_ BK506.out) hb)
         have n6_ := Aside0.mk (below_step (bl_ HB.out) hb)
         clear BK490 BK491 BK506 HB
         have HO496 := n0_
         have HO499 := n1_
         have HO502 := n2_
         have BK490 := n3_
         have BK491 := n4_
         have BK506 := n5_
         have HB := n6_
         clear n0_ n1_ n2_ n3_ n4_ n5_ n6_
         (try clear hb)
         (try clear hb2)
         (try clear hk)
         (try clear hi)
         (try clear ho0)
         (try clear ho1)
         (try clear ho2)
         obtain ⟨Ao32, co32, eo32⟩ := Kd.R_slice HO496.out
         (first | subst eo32 | (injection eo32 with f1_ f2_ f3_; have f4_ := f1_.symm; have f5_ := f3_.symm; clear f1_ f2_ f3_; subst f4_; subst f5_))
         obtain ⟨Ao33, co33, eo33⟩ := Kd.R_slice HO499.out
         (first | subst eo33 | (injection eo33 with f1_ f2_ f3_; have f4_ := f1_.symm; have f5_ := f3_.symm; clear f1_ f2_ f3_; subst f4_; subst f5_))
         obtain ⟨Ao34, co34, eo34⟩ := Kd.S_slice HO502.out
         (first | subst eo34 | (injection eo34 with f1_ f2_ f3_; have f4_ := f1_.symm; have f5_ := f3_.symm; clear f1_ f2_ f3_; subst f4_; subst f5_))
         refine hK.out _ _ ⟨(blk_cell BK490.out 0).trans rfl, (blk_cell BK490.out 1).trans rfl, (blk_cell BK490.out 2).trans rfl, (blk_cell BK491.out 0).trans rfl, (blk_cell BK491.out 1).trans rfl, (blk_cell BK491.out 2).trans rfl, (blk_cell BK491.out 3).trans rfl⟩ (fun hHeld => ?_)
         clear hK K
         refine norm_ (a' := ?_) ?_ ?_
         rotate_left
         ·
          show Act.put _ (some 20) _ = _
          simp only [Act.put, List.setIfInBounds_toArray, List.set_cons_zero, List.set_cons_succ, i64_w, i32_w]
          rfl
         refine one_ (i := 6) (N := some 25) #[true, true, true, true, true, true, true, false, false, false, true, false, false] rfl rfl (one_of HT_.out (by kernel_rfl)) (by decide) (fun K hK => ?_)
         refine goes_ Try.func30 (by kernel_rfl) rfl #[.agg #[.slice Ao32 t494.length co32, .slice Ao33 t497.length co33, .slice Ao34 t500.length co34], .agg #[.int .i64 a1_0, .int .i64 a1_1], .agg #[.int .i64 a1_2, .int .i64 a1_3]] (by rfl) rfl rfl (by (try simp only [List.map_toArray, List.map_cons, List.map_nil]); first | done | rfl | (simp only [List.length_drop, List.length_take]; rfl)) ?_
         with_reducible refine (spans_Bound.calls _ _ t494 _ _ t497 _ _ t500 a1_0 a1_1 a1_2 a1_3 t503 t504 t505 _ ?side1 ?side2 ?side3 ?side4 ?side5 ?side6 A13.out).mono ?_
         (case side1 => exact cr_ (Kd.R_reads' HO496.out).2.2)
         (case side2 => exact (Kd.R_reads' HO496.out).2.1)
         (case side3 => exact cr_ (Kd.R_reads' HO499.out).2.2)
         (case side4 => exact (Kd.R_reads' HO499.out).2.1)
         (case side5 => exact cr_ (Kd.S_reads' HO502.out).2.2)
         (case side6 => exact (Kd.S_reads' HO502.out).2.1)
         rintro e w35 ⟨rfl, hb⟩
         refine ⟨_, rfl, ?_⟩
         have n0_ := Aside0.mk (Kd.R_below (by (with_reducible repeat (first | apply Kd.R_alloc | apply Kd.R_drewN | apply Kd.R_drew)); exact HO496.out) hb)
         have n1_ := Aside0.mk (Kd.R_below (by (with_reducible repeat (first | apply Kd.R_alloc | apply Kd.R_drewN | apply Kd.R_drew)); exact HO499.out) hb)
         have n2_ := Aside0.mk (Kd.S_below (by (with_reducible repeat (first | apply Kd.S_alloc | apply Kd.S_drewN | apply Kd.S_drew)); exact HO502.out) hb)
         have n3_ := Aside0.mk (blk_below (bk_ BK490.out) hb)
         have n4_ := Aside0.mk (blk_below (bk_ BK491.out) hb)
         have n5_ := Aside0.mk (blk_below (bk_ BK506.out) hb)
         have n6_ := Aside0.mk (below_step (bl_ HB.out) hb)
         clear HO496 HO499 HO502 BK490 BK491 BK506 HB
         have HO496 := n0_
         have HO499 := n1_
         have HO502 := n2_
         have BK490 := n3_
         have BK491 := n4_
         have BK506 := n5_
         have HB := n6_
         clear n0_ n1_ n2_ n3_ n4_ n5_ n6_
         (try clear hb)
         (try clear hb2)
         (try clear hk)
         (try clear hi)
         refine hK.out _ _ ⟨(blk_cell BK490.out 0).trans rfl, (blk_cell BK490.out 1).trans rfl, (blk_cell BK490.out 2).trans rfl, (blk_cell BK491.out 0).trans rfl, (blk_cell BK491.out 1).trans rfl, (blk_cell BK491.out 2).trans rfl, (blk_cell BK491.out 3).trans rfl⟩ (fun hHeld => ?_)
         clear hK K
         refine norm_ (a' := ?_) ?_ ?_
         rotate_left
         ·
          show Act.put _ (some 25) _ = _
          simp only [Act.put, List.setIfInBounds_toArray, List.set_cons_zero, List.set_cons_succ, i64_w, i32_w]
          rfl
         refine pure_ (i := 7) (N := some 18) (v := ?_) (a' := ?_) #[true, true, true, true, true, true, true, true, false, false, true, false, false] rfl rfl (any_of HT_.out (by kernel_rfl)) (fun _ _ _ h => h) (Or.inl ⟨by rfl, ?_⟩) ?_ ?_
         rotate_left
         ·
          intro w'
          go_simp
          with_reducible rfl
         rotate_left
         ·
          simp only [Act.put, List.setIfInBounds_toArray, List.set_cons_zero, List.set_cons_succ, i64_w, i32_w]
          rfl
         refine pure_ (i := 8) (N := some 26) (v := ?_) (a' := ?_) #[true, true, true, true, true, true, true, true, true, false, true, false, false] rfl rfl (any_of HT_.out (by kernel_rfl)) (fun _ _ _ h => h) (Or.inl ⟨by rfl, ?_⟩) ?_ ?_
         rotate_left
         ·
          intro w'
          go_simp
          with_reducible rfl
         rotate_left
         ·
          simp only [Act.put, List.setIfInBounds_toArray, List.set_cons_zero, List.set_cons_succ, i64_w, i32_w]
          rfl
         refine pure_ (i := 9) (N := some 27) (v := ?_) (a' := ?_) #[true, true, true, true, true, true, true, true, true, true, true, false, false] rfl rfl (any_of HT_.out (by kernel_rfl)) (fun _ _ _ h => h) (Or.inl ⟨by rfl, ?_⟩) ?_ ?_
         rotate_left
         ·
          intro w'
          go_simp
          with_reducible rfl
         rotate_left
         ·
          simp only [Act.put, List.setIfInBounds_toArray, List.set_cons_zero, List.set_cons_succ, i64_w, i32_w]
          rfl
         exact norm_ (by simp only [putAll, Act.put, List.setIfInBounds_toArray, List.set_cons_zero, List.set_cons_succ]) (hCont (.slice Ao32 t494.length co32, .slice Ao33 t497.length co33, .slice Ao34 t500.length co34, gb506) _ ⟨hHeld, (by (with_reducible repeat (first | apply Kd.R_alloc | apply Kd.R_drewN | apply Kd.R_drew)); exact HO496.out), (by (with_reducible repeat (first | apply Kd.R_alloc | apply Kd.R_drewN | apply Kd.R_drew)); exact HO499.out), (by (with_reducible repeat (first | apply Kd.S_alloc | apply Kd.S_drewN | apply Kd.S_drew)); exact HO502.out), (bk_ BK490.out), (bk_ BK491.out), (bk_ BK506.out), GW506.out, GE506.out, NB490_506.out, NB506_490.out, NB491_506.out, NB506_491.out, (bl_ HB.out)⟩)
       rintro ⟨v495, v498, v501, gb506⟩ w36 ⟨hS_, h0_, h1_, h2_, h3_, h4_, h5_, h6_, h7_, h8_, h9_, h10_, h11_, h12_⟩
       have n0_ : Aside0 (Kd.R (Kd.int .i64) 3 w36 w.heap.size (fun k_ => some k_ ≠ (v498 : Value).ownBlock) v495 t494) := ⟨h0_⟩
       have n1_ : Aside0 (Kd.R (Kd.int .i64) 3 w36 w.heap.size (fun k_ => some k_ ≠ (v495 : Value).ownBlock) v498 t497) := ⟨h1_⟩
       have n2_ : Aside0 (Kd.S (Kd.slice 3 (Kd.int .i64)) 22 w36 w.heap.size (fun k_ => some k_ ≠ (v495 : Value).ownBlock ∧ some k_ ≠ (v498 : Value).ownBlock) v501 t500) := ⟨h2_⟩
       have n3_ : Aside0 (w36.heap[gb490]? = some (.cells #[.slice A0_0 l0_0.length c0_0, .slice A0_1 l0_1.length c0_1, .slice A0_2 l0_2.length c0_2] 25 (0, 0))) := ⟨h3_⟩
       have n4_ : Aside0 (w36.heap[gb491]? = some (.cells #[.int .i64 a1_0, .int .i64 a1_1, .int .i64 a1_2, .int .i64 a1_3] 43 (0, 0))) := ⟨h4_⟩
       have n5_ : Aside0 (w36.heap[gb506]? = some (.cells #[.int .i64 0, .int .i64 0] 27 (0, 0))) := ⟨h5_⟩
       have n6_ : Aside0 (w.heap.size ≤ gb506) := ⟨h6_⟩
       have n7_ : Aside0 (w.heap.size ≤ gb506) := ⟨h7_⟩
       have n8_ : Aside0 (gb490 ≠ gb506) := ⟨h8_⟩
       have n9_ : Aside0 (gb506 ≠ gb490) := ⟨h9_⟩
       have n10_ : Aside0 (gb491 ≠ gb506) := ⟨h10_⟩
       have n11_ : Aside0 (gb506 ≠ gb491) := ⟨h11_⟩
       have n12_ : Aside0 (Below w.heap.size w w36) := ⟨h12_⟩
       clear BK490 BK491 HB h0_ h1_ h2_ h3_ h4_ h5_ h6_ h7_ h8_ h9_ h10_ h11_ h12_
       have HO496 := n0_
       have HO499 := n1_
       have HO502 := n2_
       have BK490 := n3_
       have BK491 := n4_
       have BK506 := n5_
       have GW506 := n6_
       have GE506 := n7_
       have NB490_506 := n8_
       have NB506_490 := n9_
       have NB491_506 := n10_
       have NB506_491 := n11_
       have HB := n12_
       clear n0_ n1_ n2_ n3_ n4_ n5_ n6_ n7_ n8_ n9_ n10_ n11_ n12_
       have hHeld : w36.cell? ⟨gb490, 0, none⟩ = some (.slice A0_0 l0_0.length c0_0) ∧ w36.cell? ⟨gb490, 1, none⟩ = some (.slice A0_1 l0_1.length c0_1) ∧ w36.cell? ⟨gb490, 2, none⟩ = some (.slice A0_2 l0_2.length c0_2) ∧ w36.cell? ⟨gb491, 0, none⟩ = some (.int .i64 a1_0) ∧ w36.cell? ⟨gb491, 1, none⟩ = some (.int .i64 a1_1) ∧ w36.cell? ⟨gb491, 2, none⟩ = some (.int .i64 a1_2) ∧ w36.cell? ⟨gb491, 3, none⟩ = some (.int .i64 a1_3) := hS_
       refine norm_ (a' := ?_) ?_ ?_
       rotate_left
       ·
        simp only [putAll, Act.put, List.setIfInBounds_toArray, List.set_cons_zero, List.set_cons_succ]
        rfl
       refine one_ (i := 11) (N := none) #[true, true, true, true, true, true, true, true, true, true, true, true, false] rfl rfl (one_of HT_.out (by kernel_rfl)) (by decide) (fun K hK => ?_)
       have hs37 : w36.cell? ⟨gb506, 0, none⟩ = some (.int .i64 0) := (blk_cell BK506.out 0).trans rfl
       have hfs37 := blk_frozen BK506.out 0
       have hns37_0 := NB490_506.out
       have hns37_1 := NB491_506.out
       have hms37_0 := NB506_490.out
       have hms37_1 := NB506_491.out
       have hs38 : w36.cell? ⟨gb506, 1, none⟩ = some (.int .i64 0) := (blk_cell BK506.out 1).trans rfl
       have hfs38 := blk_frozen BK506.out 1
       have hns38_0 := NB490_506.out
       have hns38_1 := NB491_506.out
       have hms38_0 := NB506_490.out
       have hms38_1 := NB506_491.out
       refine skip_ (w1 := ?_) (by rfl) rfl ?_ ?_
       rotate_left
       ·
        go_simp
        rfl
       refine hK.out _ _ ⟨((cell_far (p := ⟨gb506, _, none⟩) NB490_506.out _).trans (((cell_far (p := ⟨gb506, _, none⟩) NB490_506.out _).trans (hHeld.1)))), ((cell_far (p := ⟨gb506, _, none⟩) NB490_506.out _).trans (((cell_far (p := ⟨gb506, _, none⟩) NB490_506.out _).trans (hHeld.2.1)))), ((cell_far (p := ⟨gb506, _, none⟩) NB490_506.out _).trans (((cell_far (p := ⟨gb506, _, none⟩) NB490_506.out _).trans (hHeld.2.2.1)))), ((cell_far (p := ⟨gb506, _, none⟩) NB491_506.out _).trans (((cell_far (p := ⟨gb506, _, none⟩) NB491_506.out _).trans (hHeld.2.2.2.1)))), ((cell_far (p := ⟨gb506, _, none⟩) NB491_506.out _).trans (((cell_far (p := ⟨gb506, _, none⟩) NB491_506.out _).trans (hHeld.2.2.2.2.1)))), ((cell_far (p := ⟨gb506, _, none⟩) NB491_506.out _).trans (((cell_far (p := ⟨gb506, _, none⟩) NB491_506.out _).trans (hHeld.2.2.2.2.2.1)))), ((cell_far (p := ⟨gb506, _, none⟩) NB491_506.out _).trans (((cell_far (p := ⟨gb506, _, none⟩) NB491_506.out _).trans (hHeld.2.2.2.2.2.2))))⟩ (fun hHeld => ?_)
       clear hK K
       refine pure_ (i := 12) (N := some 6) (v := ?_) (a' := ?_) #[true, true, true, true, true, true, true, true, true, true, true, true, true] rfl rfl (any_of HT_.out (by kernel_rfl)) (fun _ _ _ h => h) (Or.inl ⟨by rfl, ?_⟩) ?_ ?_
       rotate_left
       ·
        intro w'
        go_simp
        with_reducible rfl
       rotate_left
       ·
        simp only [Act.put, List.setIfInBounds_toArray, List.set_cons_zero, List.set_cons_succ, i64_w, i32_w]
        rfl
       refine done_ (done_of HT_.out (by kernel_rfl)) ?_
       have hnb39 := NB490_506.out
       have hnc39 := NB506_490.out
       have hcz40_0 : w36.cell? ⟨gb490, 0, none⟩ = some (.slice A0_0 l0_0.length c0_0) := (blk_cell BK490.out 0).trans rfl
       have hcz40_1 : w36.cell? ⟨gb490, 1, none⟩ = some (.slice A0_1 l0_1.length c0_1) := (blk_cell BK490.out 1).trans rfl
       have hcz40_2 : w36.cell? ⟨gb490, 2, none⟩ = some (.slice A0_2 l0_2.length c0_2) := (blk_cell BK490.out 2).trans rfl
       have hfz40_0 := blk_frozen BK490.out 0
       have hfz40_1 := blk_frozen BK490.out 1
       have hfz40_2 := blk_frozen BK490.out 2
       have hnb41 := NB491_506.out
       have hnc41 := NB506_491.out
       have hcz42_0 : w36.cell? ⟨gb491, 0, none⟩ = some (.int .i64 a1_0) := (blk_cell BK491.out 0).trans rfl
       have hcz42_1 : w36.cell? ⟨gb491, 1, none⟩ = some (.int .i64 a1_1) := (blk_cell BK491.out 1).trans rfl
       have hcz42_2 : w36.cell? ⟨gb491, 2, none⟩ = some (.int .i64 a1_2) := (blk_cell BK491.out 2).trans rfl
       have hcz42_3 : w36.cell? ⟨gb491, 3, none⟩ = some (.int .i64 a1_3) := (blk_cell BK491.out 3).trans rfl
       have hfz42_0 := blk_frozen BK491.out 0
       have hfz42_1 := blk_frozen BK491.out 1
       have hfz42_2 := blk_frozen BK491.out 2
       have hfz42_3 := blk_frozen BK491.out 3
       try go_wp2_with (first | ((with_reducible refine gate_callee (f := 31) rfl ?_); refine goesL_ (some 34) rfl rfl Try.func31 (by kernel_rfl) rfl #[.agg #[.slice A0_0 l0_0.length c0_0, .slice A0_1 l0_1.length c0_1, .slice A0_2 l0_2.length c0_2], .agg #[.int .i64 a1_0, .int .i64 a1_1], .agg #[.int .i64 a1_2, .int .i64 a1_3]] rfl (by (try simp only [List.map_toArray, List.map_cons, List.map_nil]); first | done | rfl | (simp only [List.length_drop, List.length_take]; rfl)) ?_; (with_reducible refine (swashplateref01_Bound.calls k _ _ l0_0 _ _ l0_1 _ _ l0_2 a1_0 a1_1 a1_2 a1_3 t507 t508 t509 _ ?side1 ?side2 ?side3 ?side4 ?side5 ?side6 A14.out).mono ?_); (case side1 => exact Kd.C_below HR0_0.out (bl_ HB.out)); (case side2 => exact HC0_0.out); (case side3 => exact Kd.C_below HR0_1.out (bl_ HB.out)); (case side4 => exact HC0_1.out); (case side5 => exact Kd.C_below HR0_2.out (bl_ HB.out)); (case side6 => exact HC0_2.out); rintro e w43 ⟨rfl, hb⟩; refine ⟨_, rfl, ?_⟩; have n0_ := Aside0.mk (Kd.R_below (by (with_reducible repeat (first | apply Kd.R_alloc | apply Kd.R_drewN | apply Kd.R_drew)); exact (Kd.R_mono (Kd.R_far (p := ⟨gb506, 1, none⟩) (Kd.R_far (p := ⟨gb506, 0, none⟩) (Kd.R_types HO496.out BK506.out (by decide)) (fun _ hk => hk.2) (.int .i64 t503)) (fun _ hk => hk.2) (.int .i64 t504)) (fun _ h_ => h_.1))) hb); have n1_ := Aside0.mk (Kd.R_below (by (with_reducible repeat (first | apply Kd.R_alloc | apply Kd.R_drewN | apply Kd.R_drew)); exact (Kd.R_mono (Kd.R_far (p := ⟨gb506, 1, none⟩) (Kd.R_far (p := ⟨gb506, 0, none⟩) (Kd.R_types HO499.out BK506.out (by decide)) (fun _ hk => hk.2) (.int .i64 t503)) (fun _ hk => hk.2) (.int .i64 t504)) (fun _ h_ => h_.1))) hb); have n2_ := Aside0.mk (Kd.S_below (by (with_reducible repeat (first | apply Kd.S_alloc | apply Kd.S_drewN | apply Kd.S_drew)); exact (Kd.S_mono (Kd.S_far (p := ⟨gb506, 1, none⟩) (Kd.S_far (p := ⟨gb506, 0, none⟩) (Kd.S_types HO502.out BK506.out (by decide)) (fun _ hk => hk.2) (.int .i64 t503)) (fun _ hk => hk.2) (.int .i64 t504)) (fun _ h_ => h_.1))) hb); have n3_ := Aside0.mk (blk_below (g := gb490) (o := .cells #[.slice A0_0 l0_0.length c0_0, .slice A0_1 l0_1.length c0_1, .slice A0_2 l0_2.length c0_2] 25 (0, 0)) (by (with_reducible repeat (first | refine blk_drewN ?_ _ | refine blk_drew ?_ | refine blk_alloc ?_ _)); refine blk_far ?_ NB490_506.out _; (with_reducible repeat (first | refine blk_drewN ?_ _ | refine blk_drew ?_ | refine blk_alloc ?_ _)); refine blk_far ?_ NB490_506.out _; (with_reducible repeat (first | refine blk_drewN ?_ _ | refine blk_drew ?_ | refine blk_alloc ?_ _)); exact BK490.out) hb); have n4_ := Aside0.mk (blk_below (g := gb491) (o := .cells #[.int .i64 a1_0, .int .i64 a1_1, .int .i64 a1_2, .int .i64 a1_3] 43 (0, 0)) (by (with_reducible repeat (first | refine blk_drewN ?_ _ | refine blk_drew ?_ | refine blk_alloc ?_ _)); refine blk_far ?_ NB491_506.out _; (with_reducible repeat (first | refine blk_drewN ?_ _ | refine blk_drew ?_ | refine blk_alloc ?_ _)); refine blk_far ?_ NB491_506.out _; (with_reducible repeat (first | refine blk_drewN ?_ _ | refine blk_drew ?_ | refine blk_alloc ?_ _)); exact BK491.out) hb); have n5_ := Aside0.mk (blk_below (g := gb506) (o := .cells #[.int .i64 t503, .int .i64 t504] 27 (0, 0)) (by (with_reducible repeat (first | refine blk_drewN ?_ _ | refine blk_drew ?_ | refine blk_alloc ?_ _)); refine blk_put (cs := #[.int .i64 t503, .int .i64 0]) ?_ 1 _ rfl; (with_reducible repeat (first | refine blk_drewN ?_ _ | refine blk_drew ?_ | refine blk_alloc ?_ _)); refine blk_put (cs := #[.int .i64 0, .int .i64 0]) ?_ 0 _ rfl; (with_reducible repeat (first | refine blk_drewN ?_ _ | refine blk_drew ?_ | refine blk_alloc ?_ _)); exact BK506.out) hb); have n6_ := Aside0.mk (below_step (bl_ HB.out) hb); clear HO496 HO499 HO502 BK490 BK491 BK506 HB; have HO496 := n0_; have HO499 := n1_; have HO502 := n2_; have BK490 := n3_; have BK491 := n4_; have BK506 := n5_; have HB := n6_; clear n0_ n1_ n2_ n3_ n4_ n5_ n6_; (try clear hb); (try clear hb2); (try clear hk); (try clear hi)) | ((with_reducible refine gate_dst (N := 7) rfl ?_); refine box_event ?hg (N := 7) ?hd (cs := #[.int .i64 0, .int .i64 0]) (t := 27) ?hr ?_; (case hd => rfl); (case hg => rfl); (case hr => first | (go_simp; done) | (go_simp; rfl)); intro gb510 hg w44 hbox hb; have n0_ := Aside0.mk (Kd.R_below (by (with_reducible repeat (first | apply Kd.R_alloc | apply Kd.R_drewN | apply Kd.R_drew)); exact HO496.out) hb); have n1_ := Aside0.mk (Kd.R_below (by (with_reducible repeat (first | apply Kd.R_alloc | apply Kd.R_drewN | apply Kd.R_drew)); exact HO499.out) hb); have n2_ := Aside0.mk (Kd.S_below (by (with_reducible repeat (first | apply Kd.S_alloc | apply Kd.S_drewN | apply Kd.S_drew)); exact HO502.out) hb); have n3_ := Aside0.mk (blk_below (bk_ BK490.out) hb); have n4_ := Aside0.mk (blk_below (bk_ BK491.out) hb); have n5_ := Aside0.mk (blk_below (bk_ BK506.out) hb); have n6_ := Aside0.mk (below_step (bl_ HB.out) hb); have n7_ := Aside0.mk (hbox); have n8_ := Aside0.mk (szl_ hg HB.out); have n9_ := Aside0.mk (szl_ hg HB.out); have n10_ := Aside0.mk (nel_ hg BK490.out); have n11_ := Aside0.mk (ner_ hg BK490.out); have n12_ := Aside0.mk (nel_ hg BK491.out); have n13_ := Aside0.mk (ner_ hg BK491.out); have n14_ := Aside0.mk (nel_ hg BK506.out); have n15_ := Aside0.mk (ner_ hg BK506.out); clear HO496 HO499 HO502 BK490 BK491 BK506 HB; have HO496 := n0_; have HO499 := n1_; have HO502 := n2_; have BK490 := n3_; have BK491 := n4_; have BK506 := n5_; have HB := n6_; have BK510 := n7_; have GW510 := n8_; have GE510 := n9_; have NB490_510 := n10_; have NB510_490 := n11_; have NB491_510 := n12_; have NB510_491 := n13_; have NB506_510 := n14_; have NB510_506 := n15_; clear n0_ n1_ n2_ n3_ n4_ n5_ n6_ n7_ n8_ n9_ n10_ n11_ n12_ n13_ n14_ n15_ hb hbox hg; have hnb45 := NB510_490.out; have hnc45 := NB490_510.out; have hnb46 := NB510_491.out; have hnc46 := NB491_510.out; have hnb47 := NB510_506.out; have hnc47 := NB506_510.out; have hcz48_0 : w44.cell? ⟨gb510, 0, none⟩ = some (.int .i64 0) := (blk_cell BK510.out 0).trans rfl; have hcz48_1 : w44.cell? ⟨gb510, 1, none⟩ = some (.int .i64 0) := (blk_cell BK510.out 1).trans rfl; have hfz48_0 := blk_frozen BK510.out 0; have hfz48_1 := blk_frozen BK510.out 1))
       have n0_ : Aside0 (Kd.R (Kd.int .i64) 3 ((w44.setCell ⟨gb510, 0, none⟩ (.int .i64 t507)).setCell ⟨gb510, 1, none⟩ (.int .i64 t508)) w.heap.size (fun k_ => some k_ ≠ (v498 : Value).ownBlock) v495 t494) := ⟨by (with_reducible repeat (first | apply Kd.R_alloc | apply Kd.R_drewN | apply Kd.R_drew)); exact Kd.R_mono (Kd.R_far (p := ⟨gb510, 1, none⟩) (Kd.R_far (p := ⟨gb510, 0, none⟩) (Kd.R_types HO496.out BK510.out (by decide)) (fun _ hk => hk.2) (.int .i64 t507)) (fun _ hk => hk.2) (.int .i64 t508)) (fun _ hk => hk.1)⟩
       have n1_ : Aside0 (Kd.R (Kd.int .i64) 3 ((w44.setCell ⟨gb510, 0, none⟩ (.int .i64 t507)).setCell ⟨gb510, 1, none⟩ (.int .i64 t508)) w.heap.size (fun k_ => some k_ ≠ (v495 : Value).ownBlock) v498 t497) := ⟨by (with_reducible repeat (first | apply Kd.R_alloc | apply Kd.R_drewN | apply Kd.R_drew)); exact Kd.R_mono (Kd.R_far (p := ⟨gb510, 1, none⟩) (Kd.R_far (p := ⟨gb510, 0, none⟩) (Kd.R_types HO499.out BK510.out (by decide)) (fun _ hk => hk.2) (.int .i64 t507)) (fun _ hk => hk.2) (.int .i64 t508)) (fun _ hk => hk.1)⟩
       have n2_ : Aside0 (Kd.S (Kd.slice 3 (Kd.int .i64)) 22 ((w44.setCell ⟨gb510, 0, none⟩ (.int .i64 t507)).setCell ⟨gb510, 1, none⟩ (.int .i64 t508)) w.heap.size (fun k_ => some k_ ≠ (v495 : Value).ownBlock ∧ some k_ ≠ (v498 : Value).ownBlock) v501 t500) := ⟨by (with_reducible repeat (first | apply Kd.S_alloc | apply Kd.S_drewN | apply Kd.S_drew)); exact Kd.S_mono (Kd.S_far (p := ⟨gb510, 1, none⟩) (Kd.S_far (p := ⟨gb510, 0, none⟩) (Kd.S_types HO502.out BK510.out (by decide)) (fun _ hk => hk.2) (.int .i64 t507)) (fun _ hk => hk.2) (.int .i64 t508)) (fun _ hk => ⟨hk.1.1, hk.1.2⟩)⟩
       have n3_ : Aside0 (((w44.setCell ⟨gb510, 0, none⟩ (.int .i64 t507)).setCell ⟨gb510, 1, none⟩ (.int .i64 t508)).heap[gb490]? = some (.cells #[.slice A0_0 l0_0.length c0_0, .slice A0_1 l0_1.length c0_1, .slice A0_2 l0_2.length c0_2] 25 (0, 0))) := ⟨by (with_reducible repeat (first | refine blk_drewN ?_ _ | refine blk_drew ?_ | refine blk_alloc ?_ _)); refine blk_far ?_ NB490_510.out _; (with_reducible repeat (first | refine blk_drewN ?_ _ | refine blk_drew ?_ | refine blk_alloc ?_ _)); refine blk_far ?_ NB490_510.out _; (with_reducible repeat (first | refine blk_drewN ?_ _ | refine blk_drew ?_ | refine blk_alloc ?_ _)); exact BK490.out⟩
       have n4_ : Aside0 (((w44.setCell ⟨gb510, 0, none⟩ (.int .i64 t507)).setCell ⟨gb510, 1, none⟩ (.int .i64 t508)).heap[gb491]? = some (.cells #[.int .i64 a1_0, .int .i64 a1_1, .int .i64 a1_2, .int .i64 a1_3] 43 (0, 0))) := ⟨by (with_reducible repeat (first | refine blk_drewN ?_ _ | refine blk_drew ?_ | refine blk_alloc ?_ _)); refine blk_far ?_ NB491_510.out _; (with_reducible repeat (first | refine blk_drewN ?_ _ | refine blk_drew ?_ | refine blk_alloc ?_ _)); refine blk_far ?_ NB491_510.out _; (with_reducible repeat (first | refine blk_drewN ?_ _ | refine blk_drew ?_ | refine blk_alloc ?_ _)); exact BK491.out⟩
       have n5_ : Aside0 (((w44.setCell ⟨gb510, 0, none⟩ (.int .i64 t507)).setCell ⟨gb510, 1, none⟩ (.int .i64 t508)).heap[gb506]? = some (.cells #[.int .i64 t503, .int .i64 t504] 27 (0, 0))) := ⟨by (with_reducible repeat (first | refine blk_drewN ?_ _ | refine blk_drew ?_ | refine blk_alloc ?_ _)); refine blk_far ?_ NB506_510.out _; (with_reducible repeat (first | refine blk_drewN ?_ _ | refine blk_drew ?_ | refine blk_alloc ?_ _)); refine blk_far ?_ NB506_510.out _; (with_reducible repeat (first | refine blk_drewN ?_ _ | refine blk_drew ?_ | refine blk_alloc ?_ _)); exact BK506.out⟩
       have n6_ : Aside0 (((w44.setCell ⟨gb510, 0, none⟩ (.int .i64 t507)).setCell ⟨gb510, 1, none⟩ (.int .i64 t508)).heap[gb510]? = some (.cells #[.int .i64 t507, .int .i64 t508] 27 (0, 0))) := ⟨by (with_reducible repeat (first | refine blk_drewN ?_ _ | refine blk_drew ?_ | refine blk_alloc ?_ _)); refine blk_put (cs := #[.int .i64 t507, .int .i64 0]) ?_ 1 _ rfl; (with_reducible repeat (first | refine blk_drewN ?_ _ | refine blk_drew ?_ | refine blk_alloc ?_ _)); refine blk_put (cs := #[.int .i64 0, .int .i64 0]) ?_ 0 _ rfl; (with_reducible repeat (first | refine blk_drewN ?_ _ | refine blk_drew ?_ | refine blk_alloc ?_ _)); exact BK510.out⟩
       have n7_ : Aside0 (Below w.heap.size w ((w44.setCell ⟨gb510, 0, none⟩ (.int .i64 t507)).setCell ⟨gb510, 1, none⟩ (.int .i64 t508))) := ⟨bl_ HB.out⟩
       (try clear HO496)
       (try clear HO499)
       (try clear HO502)
       (try clear BK490)
       (try clear BK491)
       (try clear BK506)
       (try clear BK510)
       (try clear HB)
       generalize ((w44.setCell ⟨gb510, 0, none⟩ (.int .i64 t507)).setCell ⟨gb510, 1, none⟩ (.int .i64 t508)) = w49 at n0_ n1_ n2_ n3_ n4_ n5_ n6_ n7_ ⊢
       have HO496 := n0_
       have HO499 := n1_
       have HO502 := n2_
       have BK490 := n3_
       have BK491 := n4_
       have BK506 := n5_
       have BK510 := n6_
       have HB := n7_
       clear n0_ n1_ n2_ n3_ n4_ n5_ n6_ n7_
       have n0_ := Aside0.mk (Kd.R_drew HO496.out)
       have n1_ := Aside0.mk (Kd.R_drew HO499.out)
       have n2_ := Aside0.mk (Kd.S_drew HO502.out)
       have n3_ := Aside0.mk (blk_drew BK490.out)
       have n4_ := Aside0.mk (blk_drew BK491.out)
       have n5_ := Aside0.mk (blk_drew BK506.out)
       have n6_ := Aside0.mk (blk_drew BK510.out)
       have n7_ := Aside0.mk (below_drew1 HB.out)
       clear HO496 HO499 HO502 BK490 BK491 BK506 BK510 HB
       have HO496 := n0_
       have HO499 := n1_
       have HO502 := n2_
       have BK490 := n3_
       have BK491 := n4_
       have BK506 := n5_
       have BK510 := n6_
       have HB := n7_
       clear n0_ n1_ n2_ n3_ n4_ n5_ n6_ n7_
       refine start_ (n := 14) (S := fun w' => w'.cell? ⟨gb490, 0, none⟩ = some (.slice A0_0 l0_0.length c0_0) ∧ w'.cell? ⟨gb490, 1, none⟩ = some (.slice A0_1 l0_1.length c0_1) ∧ w'.cell? ⟨gb490, 2, none⟩ = some (.slice A0_2 l0_2.length c0_2) ∧ w'.cell? ⟨gb491, 0, none⟩ = some (.int .i64 a1_0) ∧ w'.cell? ⟨gb491, 1, none⟩ = some (.int .i64 a1_1) ∧ w'.cell? ⟨gb491, 2, none⟩ = some (.int .i64 a1_2) ∧ w'.cell? ⟨gb491, 3, none⟩ = some (.int .i64 a1_3)) (ds := []) #[false, false, false, false, false, false, false, false, false, false, false, false, false, false] (by kernel_rfl) rfl rfl ⟨(blk_cell BK490.out 0).trans rfl, (blk_cell BK490.out 1).trans rfl, (blk_cell BK490.out 2).trans rfl, (blk_cell BK491.out 0).trans rfl, (blk_cell BK491.out 1).trans rfl, (blk_cell BK491.out 2).trans rfl, (blk_cell BK491.out 3).trans rfl⟩ (fun hHeld => ?_); refine with_tabW swashplatelaw01_SpansBounds.tab5 swashplatelaw01_SpansBounds.bits5 (fun HT_ HW_ => ?_)
       generalize w49.drew = w50 at HO496 HO499 HO502 BK490 BK491 BK506 BK510 HB hHeld ⊢
       refine pure_ (i := 2) (N := some 40) (v := ?_) (a' := ?_) #[false, false, true, false, false, false, false, false, false, false, false, false, false, false] rfl rfl (any_of HT_.out (by kernel_rfl)) (fun _ _ _ h => h) (Or.inl ⟨by rfl, ?_⟩) ?_ ?_
       rotate_left
       ·
        intro w'
        go_simp
        with_reducible rfl
       rotate_left
       ·
        simp only [Act.put, List.setIfInBounds_toArray, List.set_cons_zero, List.set_cons_succ, i64_w, i32_w]
        rfl
       refine pure_ (i := 4) (N := some 42) (v := ?_) (a' := ?_) #[false, false, true, false, true, false, false, false, false, false, false, false, false, false] rfl rfl (any_of HT_.out (by kernel_rfl)) (fun _ _ _ h => h) (Or.inl ⟨by rfl, ?_⟩) ?_ ?_
       rotate_left
       ·
        intro w'
        go_simp
        with_reducible rfl
       rotate_left
       ·
        simp only [Act.put, List.setIfInBounds_toArray, List.set_cons_zero, List.set_cons_succ, i64_w, i32_w]
        rfl
       refine take_ (i := 0) (N := some 38) (v := ?_) (a' := ?_) #[true, false, true, false, true, false, false, false, false, false, false, false, false, false] rfl rfl (take_ofW HT_.out HW_.out (by kernel_rfl)) (fun _ _ _ h => h) (Or.inl ⟨by rfl, ?_⟩) hHeld ?_ ?_
       rotate_left
       ·
        rintro w' ⟨s0, s1, s2, s3, s4, s5, s6⟩
        go_simp
        with_reducible rfl
       rotate_left
       ·
        simp only [Act.put, List.setIfInBounds_toArray, List.set_cons_zero, List.set_cons_succ, i64_w, i32_w]
        rfl
       refine take_ (i := 3) (N := some 41) (v := ?_) (a' := ?_) #[true, false, true, true, true, false, false, false, false, false, false, false, false, false] rfl rfl (take_ofW HT_.out HW_.out (by kernel_rfl)) (fun _ _ _ h => h) (Or.inl ⟨by rfl, ?_⟩) hHeld ?_ ?_
       rotate_left
       ·
        rintro w' ⟨s0, s1, s2, s3, s4, s5, s6⟩
        go_simp
        with_reducible rfl
       rotate_left
       ·
        simp only [Act.put, List.setIfInBounds_toArray, List.set_cons_zero, List.set_cons_succ, i64_w, i32_w]
        rfl
       refine take_ (i := 5) (N := some 43) (v := ?_) (a' := ?_) #[true, false, true, true, true, true, false, false, false, false, false, false, false, false] rfl rfl (take_ofW HT_.out HW_.out (by kernel_rfl)) (fun _ _ _ h => h) (Or.inl ⟨by rfl, ?_⟩) hHeld ?_ ?_
       rotate_left
       ·
        rintro w' ⟨s0, s1, s2, s3, s4, s5, s6⟩
        go_simp
        with_reducible rfl
       rotate_left
       ·
        simp only [Act.put, List.setIfInBounds_toArray, List.set_cons_zero, List.set_cons_succ, i64_w, i32_w]
        rfl
       refine one_ (i := 1) (N := some 39) #[true, true, true, true, true, true, false, false, false, false, false, false, false, false] rfl rfl (one_of HT_.out (by kernel_rfl)) (by decide) (fun K hK => ?_)
       refine goes_ Try.func24 (by kernel_rfl) rfl #[.agg #[.slice A0_0 l0_0.length c0_0, .slice A0_1 l0_1.length c0_1, .slice A0_2 l0_2.length c0_2]] (by rfl) rfl rfl (by (try simp only [List.map_toArray, List.map_cons, List.map_nil]); first | done | rfl | (simp only [List.length_drop, List.length_take]; rfl)) ?_
       with_reducible refine (swashplateref01_Copy.calls k _ _ l0_0 _ _ l0_1 _ _ l0_2 t511 t514 t517 _ ?side1 ?side2 ?side3 ?side4 ?side5 ?side6 A15.out).mono ?_
       (case side1 => exact cr_ (Kd.C_below HR0_0.out HB.out))
       (case side2 => exact HC0_0.out)
       (case side3 => exact cr_ (Kd.C_below HR0_1.out HB.out))
       (case side4 => exact HC0_1.out)
       (case side5 => exact cr_ (Kd.C_below HR0_2.out HB.out))
       (case side6 => exact HC0_2.out)
       rintro e w51 ⟨v512, v515, v518, rfl, ho0, ho1, ho2, hb⟩
       refine ⟨_, rfl, ?_⟩
       have n0_ := Aside0.mk (Kd.R_mono (Kd.R_told (Kd.R_told (Kd.R_old (by (with_reducible repeat (first | apply Kd.R_alloc | apply Kd.R_drewN | apply Kd.R_drew)); exact HO496.out) hb) (Kd.R_base ho0)) (Kd.R_base ho1)) (fun _ h_ => h_.1))
       have n1_ := Aside0.mk (Kd.R_mono (Kd.R_told (Kd.R_told (Kd.R_old (by (with_reducible repeat (first | apply Kd.R_alloc | apply Kd.R_drewN | apply Kd.R_drew)); exact HO499.out) hb) (Kd.R_base ho0)) (Kd.R_base ho1)) (fun _ h_ => h_.1))
       have n2_ := Aside0.mk (Kd.S_mono (Kd.S_told (Kd.S_told (Kd.S_told (Kd.S_old (by (with_reducible repeat (first | apply Kd.S_alloc | apply Kd.S_drewN | apply Kd.S_drew)); exact HO502.out) hb) (Kd.R_base ho0)) (Kd.R_base ho1)) (Kd.S_base ho2)) (fun _ h_ => h_.1))
       have n3_ := Aside0.mk (Kd.R_lower (Kd.R_new' (Kd.R_new' ho0 (Kd.R_lt (by (with_reducible repeat (first | apply Kd.R_alloc | apply Kd.R_drewN | apply Kd.R_drew)); exact HO496.out))) (Kd.R_lt (by (with_reducible repeat (first | apply Kd.R_alloc | apply Kd.R_drewN | apply Kd.R_drew)); exact HO499.out))) (below_size (bl_ HB.out)))
       have n4_ := Aside0.mk (Kd.R_lower (Kd.R_new' (Kd.R_new' ho1 (Kd.R_lt (by (with_reducible repeat (first | apply Kd.R_alloc | apply Kd.R_drewN | apply Kd.R_drew)); exact HO496.out))) (Kd.R_lt (by (with_reducible repeat (first | apply Kd.R_alloc | apply Kd.R_drewN | apply Kd.R_drew)); exact HO499.out))) (below_size (bl_ HB.out)))
       have n5_ := Aside0.mk (Kd.S_lower (Kd.S_new' (Kd.S_new' (Kd.S_new' ho2 (Kd.R_lt (by (with_reducible repeat (first | apply Kd.R_alloc | apply Kd.R_drewN | apply Kd.R_drew)); exact HO496.out))) (Kd.R_lt (by (with_reducible repeat (first | apply Kd.R_alloc | apply Kd.R_drewN | apply Kd.R_drew)); exact HO499.out))) (Kd.S_lt (by (with_reducible repeat (first | apply Kd.S_alloc | apply Kd.S_drewN | apply Kd.S_drew)); exact HO502.out))) (below_size (bl_ HB.out)))
       have n6_ := Aside0.mk (blk_below (bk_ BK490.out) hb)
       have n7_ := Aside0.mk (blk_below (bk_ BK491.out) hb)
       have n8_ := Aside0.mk (blk_below (bk_ BK506.out) hb)
       have n9_ := Aside0.mk (blk_below (bk_ BK510.out) hb)
       have n10_ := Aside0.mk (below_step (bl_ HB.out) hb)
       clear HO496 HO499 HO502 BK490 BK491 BK506 BK510 HB
       have HO496 := n0_
       have HO499 := n1_
       have HO502 := n2_
       have HO513 := n3_
       have HO516 := n4_
       have HO519 := n5_
       have BK490 := n6_
       have BK491 := n7_
       have BK506 := n8_
       have BK510 := n9_
       have HB := n10_
       clear n0_ n1_ n2_ n3_ n4_ n5_ n6_ n7_ n8_ n9_ n10_
       (try clear hb)
       (try clear hb2)
       (try clear hk)
       (try clear hi)
       (try clear ho0)
       (try clear ho1)
       (try clear ho2)
       obtain ⟨Ao52, co52, eo52⟩ := Kd.R_slice HO513.out
       (first | subst eo52 | (injection eo52 with f1_ f2_ f3_; have f4_ := f1_.symm; have f5_ := f3_.symm; clear f1_ f2_ f3_; subst f4_; subst f5_))
       obtain ⟨Ao53, co53, eo53⟩ := Kd.R_slice HO516.out
       (first | subst eo53 | (injection eo53 with f1_ f2_ f3_; have f4_ := f1_.symm; have f5_ := f3_.symm; clear f1_ f2_ f3_; subst f4_; subst f5_))
       obtain ⟨Ao54, co54, eo54⟩ := Kd.S_slice HO519.out
       (first | subst eo54 | (injection eo54 with f1_ f2_ f3_; have f4_ := f1_.symm; have f5_ := f3_.symm; clear f1_ f2_ f3_; subst f4_; subst f5_))
       refine hK.out _ _ ⟨(blk_cell BK490.out 0).trans rfl, (blk_cell BK490.out 1).trans rfl, (blk_cell BK490.out 2).trans rfl, (blk_cell BK491.out 0).trans rfl, (blk_cell BK491.out 1).trans rfl, (blk_cell BK491.out 2).trans rfl, (blk_cell BK491.out 3).trans rfl⟩ (fun hHeld => ?_)
       clear hK K
       refine norm_ (a' := ?_) ?_ ?_
       rotate_left
       ·
        show Act.put _ (some 39) _ = _
        simp only [Act.put, List.setIfInBounds_toArray, List.set_cons_zero, List.set_cons_succ, i64_w, i32_w]
        rfl
       refine one_ (i := 6) (N := some 44) #[true, true, true, true, true, true, true, false, false, false, false, false, false, false] rfl rfl (one_of HT_.out (by kernel_rfl)) (by decide) (fun K hK => ?_)
       refine goes_ Try.func32 (by kernel_rfl) rfl #[.agg #[.slice Ao52 t511.length co52, .slice Ao53 t514.length co53, .slice Ao54 t517.length co54], .agg #[.int .i64 a1_0, .int .i64 a1_1], .agg #[.int .i64 a1_2, .int .i64 a1_3]] (by rfl) rfl rfl (by (try simp only [List.map_toArray, List.map_cons, List.map_nil]); first | done | rfl | (simp only [List.length_drop, List.length_take]; rfl)) ?_
       with_reducible refine (spans_Worst.calls _ _ t511 _ _ t514 _ _ t517 a1_0 a1_1 a1_2 a1_3 t520 t521 t522 _ ?side1 ?side2 ?side3 ?side4 ?side5 ?side6 A16.out).mono ?_
       (case side1 => exact cr_ (Kd.R_reads' HO513.out).2.2)
       (case side2 => exact (Kd.R_reads' HO513.out).2.1)
       (case side3 => exact cr_ (Kd.R_reads' HO516.out).2.2)
       (case side4 => exact (Kd.R_reads' HO516.out).2.1)
       (case side5 => exact cr_ (Kd.S_reads' HO519.out).2.2)
       (case side6 => exact (Kd.S_reads' HO519.out).2.1)
       rintro e w55 ⟨rfl, hb⟩
       refine ⟨_, rfl, ?_⟩
       have n0_ := Aside0.mk (Kd.R_below (by (with_reducible repeat (first | apply Kd.R_alloc | apply Kd.R_drewN | apply Kd.R_drew)); exact HO496.out) hb)
       have n1_ := Aside0.mk (Kd.R_below (by (with_reducible repeat (first | apply Kd.R_alloc | apply Kd.R_drewN | apply Kd.R_drew)); exact HO499.out) hb)
       have n2_ := Aside0.mk (Kd.S_below (by (with_reducible repeat (first | apply Kd.S_alloc | apply Kd.S_drewN | apply Kd.S_drew)); exact HO502.out) hb)
       have n3_ := Aside0.mk (Kd.R_below (by (with_reducible repeat (first | apply Kd.R_alloc | apply Kd.R_drewN | apply Kd.R_drew)); exact HO513.out) hb)
       have n4_ := Aside0.mk (Kd.R_below (by (with_reducible repeat (first | apply Kd.R_alloc | apply Kd.R_drewN | apply Kd.R_drew)); exact HO516.out) hb)
       have n5_ := Aside0.mk (Kd.S_below (by (with_reducible repeat (first | apply Kd.S_alloc | apply Kd.S_drewN | apply Kd.S_drew)); exact HO519.out) hb)
       have n6_ := Aside0.mk (blk_below (bk_ BK490.out) hb)
       have n7_ := Aside0.mk (blk_below (bk_ BK491.out) hb)
       have n8_ := Aside0.mk (blk_below (bk_ BK506.out) hb)
       have n9_ := Aside0.mk (blk_below (bk_ BK510.out) hb)
       have n10_ := Aside0.mk (below_step (bl_ HB.out) hb)
       clear HO496 HO499 HO502 HO513 HO516 HO519 BK490 BK491 BK506 BK510 HB
       have HO496 := n0_
       have HO499 := n1_
       have HO502 := n2_
       have HO513 := n3_
       have HO516 := n4_
       have HO519 := n5_
       have BK490 := n6_
       have BK491 := n7_
       have BK506 := n8_
       have BK510 := n9_
       have HB := n10_
       clear n0_ n1_ n2_ n3_ n4_ n5_ n6_ n7_ n8_ n9_ n10_
       (try clear hb)
       (try clear hb2)
       (try clear hk)
       (try clear hi)
       refine hK.out _ _ ⟨(blk_cell BK490.out 0).trans rfl, (blk_cell BK490.out 1).trans rfl, (blk_cell BK490.out 2).trans rfl, (blk_cell BK491.out 0).trans rfl, (blk_cell BK491.out 1).trans rfl, (blk_cell BK491.out 2).trans rfl, (blk_cell BK491.out 3).trans rfl⟩ (fun hHeld => ?_)
       clear hK K
       refine norm_ (a' := ?_) ?_ ?_
       rotate_left
       ·
        show Act.put _ (some 44) _ = _
        simp only [Act.put, List.setIfInBounds_toArray, List.set_cons_zero, List.set_cons_succ, i64_w, i32_w]
        rfl
       refine pure_ (i := 7) (N := some 37) (v := ?_) (a' := ?_) #[true, true, true, true, true, true, true, true, false, false, false, false, false, false] rfl rfl (any_of HT_.out (by kernel_rfl)) (fun _ _ _ h => h) (Or.inl ⟨by rfl, ?_⟩) ?_ ?_
       rotate_left
       ·
        intro w'
        go_simp
        with_reducible rfl
       rotate_left
       ·
        simp only [Act.put, List.setIfInBounds_toArray, List.set_cons_zero, List.set_cons_succ, i64_w, i32_w]
        rfl
       refine pure_ (i := 8) (N := some 45) (v := ?_) (a' := ?_) #[true, true, true, true, true, true, true, true, true, false, false, false, false, false] rfl rfl (any_of HT_.out (by kernel_rfl)) (fun _ _ _ h => h) (Or.inl ⟨by rfl, ?_⟩) ?_ ?_
       rotate_left
       ·
        intro w'
        go_simp
        with_reducible rfl
       rotate_left
       ·
        simp only [Act.put, List.setIfInBounds_toArray, List.set_cons_zero, List.set_cons_succ, i64_w, i32_w]
        rfl
       refine pure_ (i := 9) (N := some 46) (v := ?_) (a' := ?_) #[true, true, true, true, true, true, true, true, true, true, false, false, false, false] rfl rfl (any_of HT_.out (by kernel_rfl)) (fun _ _ _ h => h) (Or.inl ⟨by rfl, ?_⟩) ?_ ?_
       rotate_left
       ·
        intro w'
        go_simp
        with_reducible rfl
       rotate_left
       ·
        simp only [Act.put, List.setIfInBounds_toArray, List.set_cons_zero, List.set_cons_succ, i64_w, i32_w]
        rfl
       refine pure_ (i := 10) (N := some 47) (v := ?_) (a' := ?_) #[true, true, true, true, true, true, true, true, true, true, true, false, false, false] rfl rfl (any_of HT_.out (by kernel_rfl)) (fun _ _ _ h => h) (Or.inl ⟨by rfl, ?_⟩) ?_ ?_
       rotate_left
       ·
        intro w'
        go_simp
        with_reducible rfl
       rotate_left
       ·
        simp only [Act.put, List.setIfInBounds_toArray, List.set_cons_zero, List.set_cons_succ, i64_w, i32_w]
        rfl
       refine pure_ (i := 11) (N := some 9) (v := ?_) (a' := ?_) #[true, true, true, true, true, true, true, true, true, true, true, true, false, false] rfl rfl (any_of HT_.out (by kernel_rfl)) (fun _ _ _ h => h) (Or.inl ⟨by rfl, ?_⟩) ?_ ?_
       rotate_left
       ·
        intro w'
        go_simp
        with_reducible rfl
       rotate_left
       ·
        simp only [Act.put, List.setIfInBounds_toArray, List.set_cons_zero, List.set_cons_succ, i64_w, i32_w]
        rfl
       refine pure_ (i := 12) (N := some 10) (v := ?_) (a' := ?_) #[true, true, true, true, true, true, true, true, true, true, true, true, true, false] rfl rfl (any_of HT_.out (by kernel_rfl)) (fun _ _ _ h => h) (Or.inl ⟨by rfl, ?_⟩) ?_ ?_
       rotate_left
       ·
        intro w'
        go_simp
        with_reducible rfl
       rotate_left
       ·
        simp only [Act.put, List.setIfInBounds_toArray, List.set_cons_zero, List.set_cons_succ, i64_w, i32_w]
        rfl
       refine pure_ (i := 13) (N := some 11) (v := ?_) (a' := ?_) #[true, true, true, true, true, true, true, true, true, true, true, true, true, true] rfl rfl (any_of HT_.out (by kernel_rfl)) (fun _ _ _ h => h) (Or.inl ⟨by rfl, ?_⟩) ?_ ?_
       rotate_left
       ·
        intro w'
        go_simp
        with_reducible rfl
       rotate_left
       ·
        simp only [Act.put, List.setIfInBounds_toArray, List.set_cons_zero, List.set_cons_succ, i64_w, i32_w]
        rfl
       refine done_ (done_of HT_.out (by kernel_rfl)) ?_
       have hcz56_0 : w55.cell? ⟨gb490, 0, none⟩ = some (.slice A0_0 l0_0.length c0_0) := (blk_cell BK490.out 0).trans rfl
       have hcz56_1 : w55.cell? ⟨gb490, 1, none⟩ = some (.slice A0_1 l0_1.length c0_1) := (blk_cell BK490.out 1).trans rfl
       have hcz56_2 : w55.cell? ⟨gb490, 2, none⟩ = some (.slice A0_2 l0_2.length c0_2) := (blk_cell BK490.out 2).trans rfl
       have hfz56_0 := blk_frozen BK490.out 0
       have hfz56_1 := blk_frozen BK490.out 1
       have hfz56_2 := blk_frozen BK490.out 2
       have hcz57_0 : w55.cell? ⟨gb491, 0, none⟩ = some (.int .i64 a1_0) := (blk_cell BK491.out 0).trans rfl
       have hcz57_1 : w55.cell? ⟨gb491, 1, none⟩ = some (.int .i64 a1_1) := (blk_cell BK491.out 1).trans rfl
       have hcz57_2 : w55.cell? ⟨gb491, 2, none⟩ = some (.int .i64 a1_2) := (blk_cell BK491.out 2).trans rfl
       have hcz57_3 : w55.cell? ⟨gb491, 3, none⟩ = some (.int .i64 a1_3) := (blk_cell BK491.out 3).trans rfl
       have hfz57_0 := blk_frozen BK491.out 0
       have hfz57_1 := blk_frozen BK491.out 1
       have hfz57_2 := blk_frozen BK491.out 2
       have hfz57_3 := blk_frozen BK491.out 3
       try go_wp2_with (first | ((with_reducible refine gate_callee (f := 33) rfl ?_); refine goesL_ (some 54) rfl rfl Try.func33 (by kernel_rfl) rfl #[.agg #[.slice A0_0 l0_0.length c0_0, .slice A0_1 l0_1.length c0_1, .slice A0_2 l0_2.length c0_2], .agg #[.int .i64 a1_0, .int .i64 a1_1], .agg #[.int .i64 a1_2, .int .i64 a1_3]] rfl (by (try simp only [List.map_toArray, List.map_cons, List.map_nil]); first | done | rfl | (simp only [List.length_drop, List.length_take]; rfl)) ?_; (with_reducible refine (swashplateref01_Worst.calls k _ _ l0_0 _ _ l0_1 _ _ l0_2 a1_0 a1_1 a1_2 a1_3 t523 t524 t525 _ ?side1 ?side2 ?side3 ?side4 ?side5 ?side6 A17.out).mono ?_); (case side1 => exact cr_ (Kd.C_below HR0_0.out HB.out)); (case side2 => exact HC0_0.out); (case side3 => exact cr_ (Kd.C_below HR0_1.out HB.out)); (case side4 => exact HC0_1.out); (case side5 => exact cr_ (Kd.C_below HR0_2.out HB.out)); (case side6 => exact HC0_2.out); rintro e w58 ⟨rfl, hb⟩; refine ⟨_, rfl, ?_⟩; have n0_ := Aside0.mk (Kd.R_below (by (with_reducible repeat (first | apply Kd.R_alloc | apply Kd.R_drewN | apply Kd.R_drew)); exact HO496.out) hb); have n1_ := Aside0.mk (Kd.R_below (by (with_reducible repeat (first | apply Kd.R_alloc | apply Kd.R_drewN | apply Kd.R_drew)); exact HO499.out) hb); have n2_ := Aside0.mk (Kd.S_below (by (with_reducible repeat (first | apply Kd.S_alloc | apply Kd.S_drewN | apply Kd.S_drew)); exact HO502.out) hb); have n3_ := Aside0.mk (Kd.R_below (by (with_reducible repeat (first | apply Kd.R_alloc | apply Kd.R_drewN | apply Kd.R_drew)); exact HO513.out) hb); have n4_ := Aside0.mk (Kd.R_below (by (with_reducible repeat (first | apply Kd.R_alloc | apply Kd.R_drewN | apply Kd.R_drew)); exact HO516.out) hb); have n5_ := Aside0.mk (Kd.S_below (by (with_reducible repeat (first | apply Kd.S_alloc | apply Kd.S_drewN | apply Kd.S_drew)); exact HO519.out) hb); have n6_ := Aside0.mk (blk_below (bk_ BK490.out) hb); have n7_ := Aside0.mk (blk_below (bk_ BK491.out) hb); have n8_ := Aside0.mk (blk_below (bk_ BK506.out) hb); have n9_ := Aside0.mk (blk_below (bk_ BK510.out) hb); have n10_ := Aside0.mk (below_step (bl_ HB.out) hb); clear HO496 HO499 HO502 HO513 HO516 HO519 BK490 BK491 BK506 BK510 HB; have HO496 := n0_; have HO499 := n1_; have HO502 := n2_; have HO513 := n3_; have HO516 := n4_; have HO519 := n5_; have BK490 := n6_; have BK491 := n7_; have BK506 := n8_; have BK510 := n9_; have HB := n10_; clear n0_ n1_ n2_ n3_ n4_ n5_ n6_ n7_ n8_ n9_ n10_; (try clear hb); (try clear hb2); (try clear hk); (try clear hi); have hcz59_0 : w58.cell? ⟨gb506, 0, none⟩ = some (.int .i64 t503) := (blk_cell BK506.out 0).trans rfl; have hcz59_1 : w58.cell? ⟨gb506, 1, none⟩ = some (.int .i64 t504) := (blk_cell BK506.out 1).trans rfl; have hfz59_0 := blk_frozen BK506.out 0; have hfz59_1 := blk_frozen BK506.out 1; have hcz60_0 : w58.cell? ⟨gb510, 0, none⟩ = some (.int .i64 t507) := (blk_cell BK510.out 0).trans rfl; have hcz60_1 : w58.cell? ⟨gb510, 1, none⟩ = some (.int .i64 t508) := (blk_cell BK510.out 1).trans rfl; have hfz60_0 := blk_frozen BK510.out 0; have hfz60_1 := blk_frozen BK510.out 1) | (go_at_call 22; (with_reducible refine (swashplatelaw01_works.calls k  t526 _ A23.out).mono ?_); rintro e w61 ⟨rfl, hb⟩; have n0_ := Aside0.mk (Kd.R_below (by (with_reducible repeat (first | apply Kd.R_alloc | apply Kd.R_drewN | apply Kd.R_drew)); exact HO496.out) hb); have n1_ := Aside0.mk (Kd.R_below (by (with_reducible repeat (first | apply Kd.R_alloc | apply Kd.R_drewN | apply Kd.R_drew)); exact HO499.out) hb); have n2_ := Aside0.mk (Kd.S_below (by (with_reducible repeat (first | apply Kd.S_alloc | apply Kd.S_drewN | apply Kd.S_drew)); exact HO502.out) hb); have n3_ := Aside0.mk (Kd.R_below (by (with_reducible repeat (first | apply Kd.R_alloc | apply Kd.R_drewN | apply Kd.R_drew)); exact HO513.out) hb); have n4_ := Aside0.mk (Kd.R_below (by (with_reducible repeat (first | apply Kd.R_alloc | apply Kd.R_drewN | apply Kd.R_drew)); exact HO516.out) hb); have n5_ := Aside0.mk (Kd.S_below (by (with_reducible repeat (first | apply Kd.S_alloc | apply Kd.S_drewN | apply Kd.S_drew)); exact HO519.out) hb); have n6_ := Aside0.mk (blk_below (bk_ BK490.out) hb); have n7_ := Aside0.mk (blk_below (bk_ BK491.out) hb); have n8_ := Aside0.mk (blk_below (bk_ BK506.out) hb); have n9_ := Aside0.mk (blk_below (bk_ BK510.out) hb); have n10_ := Aside0.mk (below_step (bl_ HB.out) hb); clear HO496 HO499 HO502 HO513 HO516 HO519 BK490 BK491 BK506 BK510 HB; have HO496 := n0_; have HO499 := n1_; have HO502 := n2_; have HO513 := n3_; have HO516 := n4_; have HO519 := n5_; have BK490 := n6_; have BK491 := n7_; have BK506 := n8_; have BK510 := n9_; have HB := n10_; clear n0_ n1_ n2_ n3_ n4_ n5_ n6_ n7_ n8_ n9_ n10_; (try clear hb); (try clear hb2); (try clear hk); (try clear hi)))
       go_ret
       exact ⟨by first | rfl | (simp [errW_none, errW_some] <;> rfl) | (simp [*, errW_none, errW_some] <;> rfl), bl_ HB.out⟩
      ·
       rw [if_neg c22] at H
       have c22b0 : (t522 == t525) = false := beq_eq_false_iff_ne.mpr c22
       have c22b1 : (t522 != t525) = true := bne_iff_ne.mpr c22
       exact absurd ((Option.some.inj H).trans hrT.out) (by decide)
     ·
      rw [if_neg c21] at H
      have c21b0 : (t521 == t524) = false := beq_eq_false_iff_ne.mpr c21
      have c21b1 : (t521 != t524) = true := bne_iff_ne.mpr c21
      exact absurd ((Option.some.inj H).trans hrT.out) (by decide)
    ·
     rw [if_neg c20] at H
     have c20b0 : (t520 == t523) = false := beq_eq_false_iff_ne.mpr c20
     have c20b1 : (t520 != t523) = true := bne_iff_ne.mpr c20
     exact absurd ((Option.some.inj H).trans hrT.out) (by decide)
   ·
    rw [if_neg c19] at H
    have c19b0 : (t505 == t509) = false := beq_eq_false_iff_ne.mpr c19
    have c19b1 : (t505 != t509) = true := bne_iff_ne.mpr c19
    exact absurd ((Option.some.inj H).trans hrT.out) (by decide)
  ·
   rw [if_neg c18] at H
   have c18b0 : (t503 == t507 && (t504 == t508)) = false := by simpa using c18
   (try (have c18b1 : decide (t503 = t507 && (t504 == t508)) = false := by simpa using c18))
   (try (have c18b2 : (t503 == t507 && (t504 == t508)) = false := by simpa using c18))
   (try (have c18b3 : ¬ (t503 = t507 && (t504 == t508)) := by simpa using c18))
   clear c18
   exact absurd ((Option.some.inj H).trans hrT.out) (by decide)
end Go.Proofs.Yteodlmgmmpkpoaa.PS
end
section
namespace Go.Proofs.Yteodlmgmmpkpoaa.PS
open Go.RowKit Go.Proofs.YteodlmgmmpkpoaaW.PrintWords Go.Proofs.YteodlmgmmpkpoaaW.PrintLast Go.Proofs.YteodlmgmmpkpoaaW.PrintMore
set_option linter.unusedVariables false
theorem bounds_true (X Y : List Int) (V : List (List Int)) (a0 a1 b0 b1 : Int) : swashplatelaw01_SpansBounds.f 1000 X Y V a0 a1 b0 b1 = some true := by
  unfold swashplatelaw01_SpansBounds.f
  rw [far_total X Y V 1000 (by omega), Option.bind_some]
  cases hf : farB X Y V with
  | true => rw [if_pos rfl, works_at 1000 (by omega)]; rfl
  | false =>
    obtain ⟨hx, hy, hv, hr⟩ := far_false hf
    rw [if_neg (by simp), copy_total X Y V hx hy hv hr 1000 (by omega), Option.bind_some]
    dsimp only
    rw [bound_total, Option.bind_some, rbound_total X Y V hx hy hv hr a0 a1 b0 b1 1000 (by omega), Option.bind_some, Option.bind_some]
    dsimp only
    rw [worst_total, Option.bind_some, rworst_total X Y V hx hy hv hr a0 a1 b0 b1 1000 (by omega), Option.bind_some, works_at 1000 (by omega)]
    simp
end Go.Proofs.Yteodlmgmmpkpoaa.PS
end
section
namespace Go.Proofs.Yteodlmgmmpkpoaa.PS
open Go.RowKit Go.Deep Go.ChangeShapes Go.WideShapes Go.ChangeAt Go.Proofs.YteodlmgmmpkpoaaW.PrintWords
set_option linter.unusedVariables false
set_option maxRecDepth 100000 in
theorem liftedBounds (os : Os) (started : os.Started) (H : Type) (enc : TypeId × Value → H) :
    ReturnsInHanded {} Try.checked os 5 .any (Rows.spansBoundsSpec.pre6 enc Try.prog Try.f5 Rows.spansBoundsRow.domain false) (Rows.spansBoundsSpec.post enc Try.prog Try.f5 false true false false) := by
  refine returnsInHanded_of_change (C := Try.checked) ownNone started (by kernel_rfl) Try.func5
    (ChangeSpec.witness6 (enc := enc) (C := Try.checked) false ⟨#[], #[.agg #[.slice none 0 0, .slice none 0 0, .slice none 0 0], .agg #[.int .i64 0, .int .i64 0, .int .i64 0, .int .i64 0]], []⟩ 8 (by kernel_rfl) (by kernel_rfl) (by kernel_rfl) (by kernel_rfl)) ?_
  intro W base args ds gs before hval0 hW hcnd _
  have hval : ∀ (j : Nat) t v, Try.f5.params[j]? = some t → args[j]? = some v → Value.okWide Try.prog W .any base t v := hval0
  have hW' := hW
  obtain ⟨p, q, hA0, hV, rfl, hfz, hnd⟩ := hW
  have hA : DataW.TrodAll enc Try.prog W 0 (fun _ => true) true Try.f5.params.toList args.toList ds p := hA0
  rw [Try.params5] at hA hval
  obtain ⟨v0, vs0, d0, ds0, p0, q0, hargs, rfl, rfl, h0, r0⟩ := trodAll_cons hA
  obtain ⟨v1, vs1, d1, ds1, p1, q1, rfl, rfl, rfl, h1, r1⟩ := trodAll_cons r0
  obtain ⟨rfl, rfl, rfl⟩ := trodAll_nil r1
  obtain rfl : args = #[v0, v1] := by cases args; simp_all
  obtain ⟨rfl, rfl⟩ := trodVars_none hV
  have k0 := h0
  have lt0 : ∀ x ∈ p0, x.block < W.heap.size := by obtain ⟨m, hm⟩ := k0; exact DataW.trod_lt m _ _ _ hm
  have k1 := h1
  have lt1 : ∀ x ∈ p1, x.block < W.heap.size := by obtain ⟨m, hm⟩ := k1; exact DataW.trod_lt m _ _ _ hm
  obtain ⟨A00, c00, X0, A01, c01, Y0, A02, c02, V0, rfl, t01, t02, t03, t04, t05, t06, _, _, _⟩ := arg25 (hval 0 25 v0 rfl rfl) h0
  obtain ⟨x10, x11, x12, x13, rfl⟩ := arg43 (hval 1 43 v1 rfl rfl) h1
  clear hA0 hval0
  refine (swashplatelaw01_SpansBounds.calls 1000 A00 c00 X0 A01 c01 Y0 A02 c02 V0 x10 x11 x12 x13 true W t02 t01 t04 t03 t06 t05 (bounds_true X0 Y0 V0 x10 x11 x12 x13) ⟨rfl⟩).mono fun e W' ⟨he, bel⟩ => ?_
  subst he
  exact ⟨_, rfl, _, _, _, [], _, [], hW', trodAll_mk1 (shut_bool Try.underlying4 _), (trodAll_cons_mk (Below.trod laidOut (by kernel_rfl) (of_decide_eq_true (by kernel_rfl)) k0 bel lt0) (trodAll_cons_mk (Below.trod laidOut (by kernel_rfl) (of_decide_eq_true (by kernel_rfl)) k1 bel lt1) trodAll_mk0)), rfl, bel.frame _, fun h => by cases h⟩
theorem factsBounds : joinedFacts Try.prog 5 Try.f5 Rows.spansBoundsSpec Rows.spansBoundsRow = true := by
  have fk : (Rows.spansBoundsRow.plainKeys == Try.prog.plainKeys) = true := factKeys
  have fl : (Rows.spansBoundsRow.lifted == Try.prog.liftsFinal) = true := factLifted
  have fm : (Try.prog.make == some Rows.spansBoundsRow.make) = true := factMake
  unfold joinedFacts
  repeat' (with_reducible refine Bool.and_eq_true_iff.2 ⟨?_, ?_⟩)
  all_goals first | (with_reducible exact fk) | (with_reducible exact factHeard) | (with_reducible exact factEnter) | (with_reducible exact fl) | (with_reducible exact fm) | kernel_rfl
theorem overBounds : Rows.spansBoundsRow.holds Try.pinned (OpenSpec.ofChange Rows.spansBoundsSpec) :=
  OpenClaim.holds_of_wide 5 Try.f5 rfl rfl rfl rfl rfl rfl rfl ⟨rfl, rfl, rfl, rfl, rfl⟩ rfl rfl rfl rfl rfl (by kernel_rfl) Try.func5 factsBounds
    (of_decide_eq_true (by kernel_rfl)) (by unfold Func.isWrapper; first | (rw [if_pos (by decide +kernel)]; kernel_rfl) | (rw [if_neg (by decide +kernel)]; exact ⟨rfl, rfl⟩))
    (fun os started H enc _ => liftedBounds os started H enc)
theorem boundsProved : Rows.SpansBoundsSaid := overBounds
#print axioms boundsProved
end Go.Proofs.Yteodlmgmmpkpoaa.PS
end
