-- Printed by a program of this session out of the translation (hybrid print) and out of hand proofs. Not trusted: Lean checks it.
import Derived.Below
import Derived.Deep.Draws
import Derived.Deep.AppendLies
import Derived.Maps.AppendAt
import Derived.OwnWalk
import Derived.Laws.BytesArg
import Derived.Laws.MakeOwn
import Derived.Laws.OwnMore
import Derived.Deep.OwnRows
import Derived.Tactics
import Derived.Lib.ConvBytes
import Derived.Laws.Slices
import Derived.WalkKit
import Derived.KernelRfl
import Derived.RowKit3
import Derived.Deep.LoopGhost
import Derived.Deep.QuietTactic
import Derived.BigQuiet
import Derived.WideLaws
import Derived.Deep.DeepCutAuto
import Derived.Deep.CutBlock
import Derived.Deep.RegionHeld3
import Derived.Laws.Rows
import Derived.Lib.AppendStr
import Derived.ArgAppend
import Derived.Laws.IdiomCopy
import Derived.RowKit
import Derived.Test.YteodlmgmmpkpoaaD1
section
namespace Go.Proofs.Yteodlmgmmpkpoaa.PS
open Go.RowKit Go.Proofs.YteodlmgmmpkpoaaW.PrintWords Go.Proofs.YteodlmgmmpkpoaaW.PrintLast Go.Proofs.YteodlmgmmpkpoaaW.PrintMore
attribute [local go_sem] max2_int min2_int max_two min_two max_three min_three max_four min_four   -- for this text's walks alone
set_option linter.unusedVariables false
set_option linter.unusedSimpArgs false
mutual
def swashplateref01_checkList.l0 : Nat → List (List (S27)) → Int → Int → Option (Int)
 | 0, _, _, _ => none
 | k + 1, x0, x1, x5 => if x5 < (x0.length : Int) then (if 0 ≤ x5 then ((swashplateref01_Check.f k (rd_L2 x0 x5)).bind fun t701 => (if t701 = 0 then (swashplateref01_checkList.l0 k x0 x1 (wrap64 (x5 + 1))) else (some 10))) else (none)) else (swashplateref01_checkList.l1 k x0 x1 0)
def swashplateref01_checkList.l1 : Nat → List (List (S27)) → Int → Int → Option (Int)
 | 0, _, _, _ => none
 | k + 1, x0, x1, x6 => if x6 < (x0.length : Int) then (if x1 < 0 then (if 0 < (x0.length : Int) then (if 0 ≤ x6 then (if ((rd_L2 x0 x6).length : Int) = ((rd_L2 x0 0).length : Int) then (swashplateref01_checkList.l1 k x0 ((rd_L2 x0 0).length : Int) (wrap64 (x6 + 1))) else (some 1)) else (none)) else (none)) else (if 0 ≤ x6 then (if ((rd_L2 x0 x6).length : Int) = x1 then (swashplateref01_checkList.l1 k x0 x1 (wrap64 (x6 + 1))) else (some 1)) else (none))) else (some 0)
end
def swashplateref01_checkList.f (k : Nat) (l0 : List (List (S27))) (a1 : Int) : Option (Int) := if (l0.length : Int) > 20 then (some 2) else (swashplateref01_checkList.l0 k l0 a1 0)
set_option maxHeartbeats 8000000 in
set_option maxRecDepth 100000 in
theorem swashplateref01_checkList.calls (k : Nat) (A0 : Option Addr) (c0 : Nat) (l0 : List (List (S27))) (a1 : Int) (r : Int) (w : World) (hr0 : Kd.C (Kd.slice 27 k27) w A0 l0.length l0) (hc0 : l0.length ≤ c0) (h : swashplateref01_checkList.f k l0 a1 = some r) :
  Calls Try.prog 125 #[.slice A0 l0.length c0, .int .i64 a1] w fun e w' => e = .returned (.int .i64 r) ∧ Below w.heap.size w w' := by
 have HR0 := Aside0.mk hr0
 have HC0 := Aside0.mk hc0
 clear hr0 hc0
 have HB := Aside0.mk (Below.refl w.heap.size w)
 have H : (if (l0.length : Int) > 20 then (some 2) else (swashplateref01_checkList.l0 k l0 a1 0)) = some r := h
 clear h
 by_cases c3 : (l0.length : Int) > 20
 ·
  rw [if_pos c3] at H
  have c3b0 : decide (20 < (l0.length : Int)) = true := decide_eq_true c3
  have c3b1 : decide (20 < l0.length) = true := decide_eq_true (by omega)
  clear c3
  obtain rfl := Option.some.inj H
  go_enter Try.func125, Try.ntmps125
  go_wp2
  go_ret
  exact ⟨by first | rfl | (simp [errW_none, errW_some] <;> rfl) | (simp [*, errW_none, errW_some] <;> rfl), bl_ HB.out⟩
 ·
  rw [if_neg c3] at H
  have c3b0 : decide (20 < (l0.length : Int)) = false := decide_eq_false c3
  have c3b1 : decide (20 < l0.length) = false := decide_eq_false (by omega)
  clear c3
  have H' := Aside0.mk H
  clear H
  go_enter Try.func125, Try.ntmps125
  go_wp2
  go_loopg [5] k (fun kq v5 w' => ∃ (x5_1 : Int), v5 = .int .i64 x5_1 ∧ Aside0 (swashplateref01_checkList.l0 kq l0 a1 x5_1 = some r) ∧ Aside0 (kq ≤ k) ∧ Aside0 (Below w.heap.size w w'))
  case atStart => exact ⟨(0), (by first | rfl | (simp; done) | (simp [*]; done)), H', ⟨Nat.le_refl _⟩, ⟨bl_ HB.out⟩⟩
  case round =>
   clear H'
   try clear c1
   try clear p2
   try clear c3
   try clear c3b0
   try clear c3b1
   obtain ⟨x5_1, rfl, HA, HK1, HB⟩ := hrel
   cases gk with
   | zero => exact absurd HA.out (by simp [swashplateref01_checkList.l0])
   | succ k1 =>
    have H := HA.out
    clear HA
    simp only [swashplateref01_checkList.l0] at H
    by_cases c4 : x5_1 < (l0.length : Int)
    ·
     rw [if_pos c4] at H
     have c4b0 : decide (x5_1 < (l0.length : Int)) = true := decide_eq_true c4
     clear c4
     by_cases c5 : 0 ≤ x5_1
     ·
      rw [if_pos c5] at H
      have c5b0 : decide (0 ≤ x5_1) = true := decide_eq_true c5
      clear c5
      replace H := Option.bind_eq_some_iff.mp H
      obtain ⟨t701, A60, H⟩ := H
      replace H : (if t701 = 0 then (swashplateref01_checkList.l0 k1 l0 a1 (wrap64 (x5_1 + 1))) else (some 10)) = some r := H
      have A6 := Aside0.mk A60
      clear A60
      by_cases c7 : t701 = 0
      ·
       rw [if_pos c7] at H
       have c7b0 : (t701 == 0) = true := beq_iff_eq.mpr c7
       have c7b1 : (t701 != 0) = false := bne_eq_false_iff_eq.mpr c7
       clear c7
       have H' := Aside0.mk H
       clear H
       have p700 : 0 ≤ (x5_1 : Int) := of_decide_eq_true (by first | (with_reducible assumption) | assumption)
       have q700 : x5_1 < (l0.length : Int) := of_decide_eq_true (by first | (with_reducible assumption) | assumption)
       obtain ⟨ad700, A700_0, c700_0, e700, hx700_0, hl700_0, hi700_0⟩ := at_L2 HR0.out x5_1 p700 q700
       cases e700
       replace hx700_0 := (HB.out.cell (World.block_lt_of_cell? w _ hx700_0)).trans hx700_0
       have HR700_0 := Aside0.mk hi700_0
       have HC700_0 := Aside0.mk hl700_0
       clear hi700_0 hl700_0
       replace p700 := eq_true p700
       replace q700 := eq_true q700
       go_wp2_with (first | ((with_reducible refine gate_callee (f := 28) rfl ?_); refine goesL_ (some 20) rfl rfl Try.func28 (by kernel_rfl) rfl #[.slice A700_0 (rd_L2 l0 x5_1).length c700_0] rfl (by (try simp only [List.map_toArray, List.map_cons, List.map_nil]); first | done | rfl | (simp only [List.length_drop, List.length_take]; rfl)) ?_; (with_reducible refine (swashplateref01_Check.calls k1 _ _ (rd_L2 l0 x5_1) t701 _ ?side1 ?side2 A6.out).mono ?_); (case side1 => exact cr_ (Kd.C_below HR700_0.out HB.out)); (case side2 => exact HC700_0.out); rintro e w8 ⟨rfl, hb⟩; refine ⟨_, rfl, ?_⟩; have n0_ := Aside0.mk (below_step (bl_ HB.out) hb); clear HB; have HB := n0_; clear n0_; (try clear hb); (try clear hb2); (try clear hk); (try clear hi)))
       go_roundg k1
       case measure => have := HK1.out; omega
       case rel => exact ⟨(wrap64 (x5_1 + 1)), (by first | rfl | (simp; done) | (simp [*]; done)), H', ⟨by have := HK1.out; omega⟩, ⟨bl_ HB.out⟩⟩
      ·
       rw [if_neg c7] at H
       have c7b0 : (t701 == 0) = false := beq_eq_false_iff_ne.mpr c7
       have c7b1 : (t701 != 0) = true := bne_iff_ne.mpr c7
       obtain rfl := Option.some.inj H
       have p700 : 0 ≤ (x5_1 : Int) := of_decide_eq_true (by first | (with_reducible assumption) | assumption)
       have q700 : x5_1 < (l0.length : Int) := of_decide_eq_true (by first | (with_reducible assumption) | assumption)
       obtain ⟨ad700, A700_0, c700_0, e700, hx700_0, hl700_0, hi700_0⟩ := at_L2 HR0.out x5_1 p700 q700
       cases e700
       replace hx700_0 := (HB.out.cell (World.block_lt_of_cell? w _ hx700_0)).trans hx700_0
       have HR700_0 := Aside0.mk hi700_0
       have HC700_0 := Aside0.mk hl700_0
       clear hi700_0 hl700_0
       replace p700 := eq_true p700
       replace q700 := eq_true q700
       go_wp2_with (first | ((with_reducible refine gate_callee (f := 28) rfl ?_); refine goesL_ (some 20) rfl rfl Try.func28 (by kernel_rfl) rfl #[.slice A700_0 (rd_L2 l0 x5_1).length c700_0] rfl (by (try simp only [List.map_toArray, List.map_cons, List.map_nil]); first | done | rfl | (simp only [List.length_drop, List.length_take]; rfl)) ?_; (with_reducible refine (swashplateref01_Check.calls k1 _ _ (rd_L2 l0 x5_1) t701 _ ?side1 ?side2 A6.out).mono ?_); (case side1 => exact cr_ (Kd.C_below HR700_0.out HB.out)); (case side2 => exact HC700_0.out); rintro e w9 ⟨rfl, hb⟩; refine ⟨_, rfl, ?_⟩; have n0_ := Aside0.mk (below_step (bl_ HB.out) hb); clear HB; have HB := n0_; clear n0_; (try clear hb); (try clear hb2); (try clear hk); (try clear hi)))
       go_ret
       exact ⟨by first | rfl | (simp [errW_none, errW_some] <;> rfl) | (simp [*, errW_none, errW_some] <;> rfl), bl_ HB.out⟩
     ·
      rw [if_neg c5] at H
      exact absurd H (by simp)
    ·
     rw [if_neg c4] at H
     have c4b0 : decide (x5_1 < (l0.length : Int)) = false := decide_eq_false c4
     clear c4
     have H' := Aside0.mk H
     clear H
     go_wp2
     go_loopg [1, 6] k1 (fun kq v1 v6 w' => ∃ (x1_2 : Int) (x6_2 : Int), v1 = .int .i64 x1_2 ∧ v6 = .int .i64 x6_2 ∧ Aside0 (swashplateref01_checkList.l1 kq l0 x1_2 x6_2 = some r) ∧ Aside0 (kq ≤ k1) ∧ Aside0 (Below w.heap.size w w'))
     case atStart => exact ⟨(a1), (0), (by first | rfl | (simp; done) | (simp [*]; done)), (by first | rfl | (simp; done) | (simp [*]; done)), H', ⟨Nat.le_refl _⟩, ⟨bl_ HB.out⟩⟩
     case round =>
      clear H'
      try clear c1
      try clear c2
      try clear p2
      try clear c3
      try clear c3b0
      try clear c3b1
      try clear c4
      try clear c4b0
      try clear c5
      try clear c5b0
      try clear p6
      try clear c7
      try clear c7b0
      try clear c7b1
      try clear p7
      try clear q7
      try clear hx7
      try clear hx700_0
      try clear p2
      try clear p700
      try clear q700
      obtain ⟨x1_2, x6_2, rfl, rfl, HA, HK2, HB⟩ := hrel
      cases gk with
      | zero => exact absurd HA.out (by simp [swashplateref01_checkList.l1])
      | succ k2 =>
       have H := HA.out
       clear HA
       simp only [swashplateref01_checkList.l1] at H
       by_cases c10 : x6_2 < (l0.length : Int)
       ·
        rw [if_pos c10] at H
        have c10b0 : decide (x6_2 < (l0.length : Int)) = true := decide_eq_true c10
        clear c10
        by_cases c11 : x1_2 < 0
        ·
         rw [if_pos c11] at H
         have c11b0 : decide (x1_2 < 0) = true := decide_eq_true c11
         clear c11
         by_cases c12 : 0 < (l0.length : Int)
         ·
          rw [if_pos c12] at H
          have c12b0 : decide (0 < (l0.length : Int)) = true := decide_eq_true c12
          have c12b1 : decide (0 < l0.length) = true := decide_eq_true (by omega)
          clear c12
          by_cases c13 : 0 ≤ x6_2
          ·
           rw [if_pos c13] at H
           have c13b0 : decide (0 ≤ x6_2) = true := decide_eq_true c13
           clear c13
           by_cases c14 : ((rd_L2 l0 x6_2).length : Int) = ((rd_L2 l0 0).length : Int)
           ·
            rw [if_pos c14] at H
            have c14b0 : (((rd_L2 l0 x6_2).length : Int) == ((rd_L2 l0 0).length : Int)) = true := beq_iff_eq.mpr c14
            have c14b1 : (((rd_L2 l0 x6_2).length : Int) != ((rd_L2 l0 0).length : Int)) = false := bne_eq_false_iff_eq.mpr c14
            have c14b2 : ((rd_L2 l0 x6_2).length == (rd_L2 l0 0).length) = true := by first | simpa using c14 | (simp at c14 ⊢; omega)
            clear c14
            have H' := Aside0.mk H
            clear H
            have p702 : 0 ≤ (0 : Int) := (by omega)
            have q702 : 0 < (l0.length : Int) := of_decide_eq_true (by first | (with_reducible assumption) | assumption)
            obtain ⟨ad702, A702_0, c702_0, e702, hx702_0, hl702_0, hi702_0⟩ := at_L2 HR0.out 0 p702 q702
            cases e702
            have qi702 : (0 < l0.length) = True := eq_true (by omega)
            (try rw [show ((0 : Int)).toNat = 0 from rfl] at hx702_0)
            (try rw [Addr.add_zero'] at hx702_0)
            replace hx702_0 := (HB.out.cell (World.block_lt_of_cell? w _ hx702_0)).trans hx702_0
            have HR702_0 := Aside0.mk hi702_0
            have HC702_0 := Aside0.mk hl702_0
            clear hi702_0 hl702_0
            replace p702 := eq_true p702
            replace q702 := eq_true q702
            have p703 : 0 ≤ (x6_2 : Int) := of_decide_eq_true (by first | (with_reducible assumption) | assumption)
            have q703 : x6_2 < (l0.length : Int) := of_decide_eq_true (by first | (with_reducible assumption) | assumption)
            obtain ⟨ad703, A703_0, c703_0, e703, hx703_0, hl703_0, hi703_0⟩ := at_L2 HR0.out x6_2 p703 q703
            obtain rfl : ad702 = ad703 := (by injection e703)
            replace hx703_0 := (HB.out.cell (World.block_lt_of_cell? w _ hx703_0)).trans hx703_0
            have HR703_0 := Aside0.mk hi703_0
            have HC703_0 := Aside0.mk hl703_0
            clear hi703_0 hl703_0
            replace p703 := eq_true p703
            replace q703 := eq_true q703
            go_wp2
            go_roundg k2
            case measure => have := HK1.out; have := HK2.out; omega
            case rel => exact ⟨(((rd_L2 l0 0).length : Int)), (wrap64 (x6_2 + 1)), (by first | rfl | (simp; done) | (simp [*]; done)), (by first | rfl | (simp; done) | (simp [*]; done)), H', ⟨by have := HK1.out; have := HK2.out; omega⟩, ⟨bl_ HB.out⟩⟩
           ·
            rw [if_neg c14] at H
            have c14b0 : (((rd_L2 l0 x6_2).length : Int) == ((rd_L2 l0 0).length : Int)) = false := beq_eq_false_iff_ne.mpr c14
            have c14b1 : (((rd_L2 l0 x6_2).length : Int) != ((rd_L2 l0 0).length : Int)) = true := bne_iff_ne.mpr c14
            have c14b2 : ((rd_L2 l0 x6_2).length == (rd_L2 l0 0).length) = false := by first | simpa using c14 | (simp at c14 ⊢; omega)
            obtain rfl := Option.some.inj H
            have p702 : 0 ≤ (0 : Int) := (by omega)
            have q702 : 0 < (l0.length : Int) := of_decide_eq_true (by first | (with_reducible assumption) | assumption)
            obtain ⟨ad702, A702_0, c702_0, e702, hx702_0, hl702_0, hi702_0⟩ := at_L2 HR0.out 0 p702 q702
            cases e702
            have qi702 : (0 < l0.length) = True := eq_true (by omega)
            (try rw [show ((0 : Int)).toNat = 0 from rfl] at hx702_0)
            (try rw [Addr.add_zero'] at hx702_0)
            replace hx702_0 := (HB.out.cell (World.block_lt_of_cell? w _ hx702_0)).trans hx702_0
            have HR702_0 := Aside0.mk hi702_0
            have HC702_0 := Aside0.mk hl702_0
            clear hi702_0 hl702_0
            replace p702 := eq_true p702
            replace q702 := eq_true q702
            have p703 : 0 ≤ (x6_2 : Int) := of_decide_eq_true (by first | (with_reducible assumption) | assumption)
            have q703 : x6_2 < (l0.length : Int) := of_decide_eq_true (by first | (with_reducible assumption) | assumption)
            obtain ⟨ad703, A703_0, c703_0, e703, hx703_0, hl703_0, hi703_0⟩ := at_L2 HR0.out x6_2 p703 q703
            obtain rfl : ad702 = ad703 := (by injection e703)
            replace hx703_0 := (HB.out.cell (World.block_lt_of_cell? w _ hx703_0)).trans hx703_0
            have HR703_0 := Aside0.mk hi703_0
            have HC703_0 := Aside0.mk hl703_0
            clear hi703_0 hl703_0
            replace p703 := eq_true p703
            replace q703 := eq_true q703
            go_wp2
            go_ret
            exact ⟨by first | rfl | (simp [errW_none, errW_some] <;> rfl) | (simp [*, errW_none, errW_some] <;> rfl), bl_ HB.out⟩
          ·
           rw [if_neg c13] at H
           exact absurd H (by simp)
         ·
          rw [if_neg c12] at H
          exact absurd H (by simp)
        ·
         rw [if_neg c11] at H
         have c11b0 : decide (x1_2 < 0) = false := decide_eq_false c11
         clear c11
         by_cases c15 : 0 ≤ x6_2
         ·
          rw [if_pos c15] at H
          have c15b0 : decide (0 ≤ x6_2) = true := decide_eq_true c15
          clear c15
          by_cases c16 : ((rd_L2 l0 x6_2).length : Int) = x1_2
          ·
           rw [if_pos c16] at H
           have c16b0 : (((rd_L2 l0 x6_2).length : Int) == x1_2) = true := beq_iff_eq.mpr c16
           have c16b1 : (((rd_L2 l0 x6_2).length : Int) != x1_2) = false := bne_eq_false_iff_eq.mpr c16
           clear c16
           have H' := Aside0.mk H
           clear H
           have p704 : 0 ≤ (x6_2 : Int) := of_decide_eq_true (by first | (with_reducible assumption) | assumption)
           have q704 : x6_2 < (l0.length : Int) := of_decide_eq_true (by first | (with_reducible assumption) | assumption)
           obtain ⟨ad704, A704_0, c704_0, e704, hx704_0, hl704_0, hi704_0⟩ := at_L2 HR0.out x6_2 p704 q704
           cases e704
           replace hx704_0 := (HB.out.cell (World.block_lt_of_cell? w _ hx704_0)).trans hx704_0
           have HR704_0 := Aside0.mk hi704_0
           have HC704_0 := Aside0.mk hl704_0
           clear hi704_0 hl704_0
           replace p704 := eq_true p704
           replace q704 := eq_true q704
           go_wp2
           go_roundg k2
           case measure => have := HK1.out; have := HK2.out; omega
           case rel => exact ⟨(x1_2), (wrap64 (x6_2 + 1)), (by first | rfl | (simp; done) | (simp [*]; done)), (by first | rfl | (simp; done) | (simp [*]; done)), H', ⟨by have := HK1.out; have := HK2.out; omega⟩, ⟨bl_ HB.out⟩⟩
          ·
           rw [if_neg c16] at H
           have c16b0 : (((rd_L2 l0 x6_2).length : Int) == x1_2) = false := beq_eq_false_iff_ne.mpr c16
           have c16b1 : (((rd_L2 l0 x6_2).length : Int) != x1_2) = true := bne_iff_ne.mpr c16
           obtain rfl := Option.some.inj H
           have p704 : 0 ≤ (x6_2 : Int) := of_decide_eq_true (by first | (with_reducible assumption) | assumption)
           have q704 : x6_2 < (l0.length : Int) := of_decide_eq_true (by first | (with_reducible assumption) | assumption)
           obtain ⟨ad704, A704_0, c704_0, e704, hx704_0, hl704_0, hi704_0⟩ := at_L2 HR0.out x6_2 p704 q704
           cases e704
           replace hx704_0 := (HB.out.cell (World.block_lt_of_cell? w _ hx704_0)).trans hx704_0
           have HR704_0 := Aside0.mk hi704_0
           have HC704_0 := Aside0.mk hl704_0
           clear hi704_0 hl704_0
           replace p704 := eq_true p704
           replace q704 := eq_true q704
           go_wp2
           go_ret
           exact ⟨by first | rfl | (simp [errW_none, errW_some] <;> rfl) | (simp [*, errW_none, errW_some] <;> rfl), bl_ HB.out⟩
         ·
          rw [if_neg c15] at H
          exact absurd H (by simp)
       ·
        rw [if_neg c10] at H
        have c10b0 : decide (x6_2 < (l0.length : Int)) = false := decide_eq_false c10
        clear c10
        obtain rfl := Option.some.inj H
        go_wp2
        go_ret
        exact ⟨by first | rfl | (simp [errW_none, errW_some] <;> rfl) | (simp [*, errW_none, errW_some] <;> rfl), bl_ HB.out⟩
end Go.Proofs.Yteodlmgmmpkpoaa.PS
end
section
namespace Go.Proofs.Yteodlmgmmpkpoaa.PS
open Go.RowKit Go.Proofs.YteodlmgmmpkpoaaW.PrintWords Go.Proofs.YteodlmgmmpkpoaaW.PrintLast Go.Proofs.YteodlmgmmpkpoaaW.PrintMore
attribute [local go_sem] max2_int min2_int max_two min_two max_three min_three max_four min_four   -- for this text's walks alone
set_option linter.unusedVariables false
set_option linter.unusedSimpArgs false
def swashplateref01_CopyBoxes.l0 : Nat → List (List (S27)) → List (List (S27)) → Int → Option ((List (List (S27))))
 | 0, _, _, _ => none
 | k + 1, x0, x3, x4 => if x4 < (x0.length : Int) then ((some (([] : List (S27)) : List (S27))).bind fun y690 => (if 0 ≤ x4 then (if y690.length + (rd_L2 x0 x4).length < 8796093022208 then (if x3.length < 5864062014805 then (swashplateref01_CopyBoxes.l0 k x0 (x3 ++ [(y690 ++ (rd_L2 x0 x4))]) (wrap64 (x4 + 1))) else (none)) else (none)) else (none))) else (some x3)
def swashplateref01_CopyBoxes.f (k : Nat) (l0 : List (List (S27))) : Option ((List (List (S27)))) := swashplateref01_CopyBoxes.l0 k l0 ([] : List (List (S27))) 0
set_option maxHeartbeats 8000000 in
set_option maxRecDepth 100000 in
theorem swashplateref01_CopyBoxes.calls (k : Nat) (A0 : Option Addr) (c0 : Nat) (l0 : List (List (S27))) (r : List (List (S27))) (w : World) (hr0 : Kd.C (Kd.slice 27 k27) w A0 l0.length l0) (hc0 : l0.length ≤ c0) (h : swashplateref01_CopyBoxes.f k l0 = some r) :
  Calls Try.prog 66 #[.slice A0 l0.length c0] w fun e w' => ∃ v0_ : Value, e = .returned (v0_) ∧ Kd.S (Kd.slice 27 k27) 38 w' w.heap.size (fun _ => True) v0_ r ∧ Below w.heap.size w w' := by
 have HR0 := Aside0.mk hr0
 have HC0 := Aside0.mk hc0
 clear hr0 hc0
 have HB := Aside0.mk (Below.refl w.heap.size w)
 have H : (swashplateref01_CopyBoxes.l0 k l0 ([] : List (List (S27))) 0) = some r := h
 clear h
 have H' := Aside0.mk H
 clear H
 go_enter Try.func66, Try.ntmps66
 go_wp2
 go_loopg [3, 4] k (fun kq v3 v4 w' => ∃ (x3_1 : List (List (S27))) (x4_1 : Int), v4 = .int .i64 x4_1 ∧ Aside0 (swashplateref01_CopyBoxes.l0 kq l0 x3_1 x4_1 = some r) ∧ Aside0 (kq ≤ k) ∧ Aside0 (Kd.S (Kd.slice 27 k27) 38 w' w.heap.size (fun _ => True) v3 x3_1) ∧ Aside0 (Below w.heap.size w w'))
 case atStart => exact ⟨(([] : List (List (S27)))), (0), (by first | rfl | (simp; done) | (simp [*]; done)), H', ⟨Nat.le_refl _⟩, ⟨by first | exact Kd.S_nil _ _ _ _ _ | exact Kd.N_nil _ _ _ _ _ | exact Kd.V_nil _ _ _ _ _ | exact Kd.Q_nil _ _ _ _ _ | exact Kd.R_nil _ _ _ _ _⟩, ⟨bl_ HB.out⟩⟩
 case round =>
  clear H'
  obtain ⟨x3_1, x4_1, rfl, HA, HK1, HO_3, HB⟩ := hrel
  cases gk with
  | zero => exact absurd HA.out (by simp [swashplateref01_CopyBoxes.l0])
  | succ k1 =>
   have H := HA.out
   clear HA
   simp only [swashplateref01_CopyBoxes.l0] at H
   by_cases c2 : x4_1 < (l0.length : Int)
   ·
    rw [if_pos c2] at H
    have c2b0 : decide (x4_1 < (l0.length : Int)) = true := decide_eq_true c2
    clear c2
    obtain ⟨y690, hy690⟩ : ∃ y_ : List (S27), y_ = (([] : List (S27))) := ⟨_, rfl⟩
    replace H : (if 0 ≤ x4_1 then (if y690.length + (rd_L2 l0 x4_1).length < 8796093022208 then (if x3_1.length < 5864062014805 then (swashplateref01_CopyBoxes.l0 k1 l0 (x3_1 ++ [(y690 ++ (rd_L2 l0 x4_1))]) (wrap64 (x4_1 + 1))) else (none)) else (none)) else (none)) = some r := by first | (rw [hy690]; with_reducible exact H) | (have H2_ := (Option.bind_some _ _).symm.trans H; rw [hy690]; with_reducible exact H2_) | (have H2_ := (Option.bind_some _ _).symm.trans H; with_reducible exact H2_) | with_reducible exact H | (rw [hy690]; exact H) | exact H
    have Ny690 := Aside0.mk hy690
    clear hy690
    by_cases c3 : 0 ≤ x4_1
    ·
     rw [if_pos c3] at H
     have c3b0 : decide (0 ≤ x4_1) = true := decide_eq_true c3
     clear c3
     by_cases c4 : y690.length + (rd_L2 l0 x4_1).length < 8796093022208
     ·
      rw [if_pos c4] at H
      have LMc4 := Aside0.mk c4
      clear c4
      obtain ⟨y694, hy694⟩ : ∃ y_ : List (S27), y_ = (y690 ++ (rd_L2 l0 x4_1)) := ⟨_, rfl⟩
      replace H : (if x3_1.length < 5864062014805 then (swashplateref01_CopyBoxes.l0 k1 l0 (x3_1 ++ [y694]) (wrap64 (x4_1 + 1))) else (none)) = some r := by first | (rw [hy694]; with_reducible exact H) | (have H2_ := (Option.bind_some _ _).symm.trans H; rw [hy694]; with_reducible exact H2_) | (have H2_ := (Option.bind_some _ _).symm.trans H; with_reducible exact H2_) | with_reducible exact H | (rw [hy694]; exact H) | exact H
      have Ny694 := Aside0.mk hy694
      clear hy694
      by_cases c5 : x3_1.length < 5864062014805
      ·
       rw [if_pos c5] at H
       have LMc5 := Aside0.mk c5
       clear c5
       obtain ⟨y697, hy697⟩ : ∃ y_ : List (List (S27)), y_ = (x3_1 ++ [y694]) := ⟨_, rfl⟩
       replace H : (swashplateref01_CopyBoxes.l0 k1 l0 y697 (wrap64 (x4_1 + 1))) = some r := by first | (rw [hy697]; with_reducible exact H) | (have H2_ := (Option.bind_some _ _).symm.trans H; rw [hy697]; with_reducible exact H2_) | (have H2_ := (Option.bind_some _ _).symm.trans H; with_reducible exact H2_) | with_reducible exact H | (rw [hy697]; exact H) | exact H
       have Ny697 := Aside0.mk hy697
       clear hy697
       have H' := Aside0.mk H
       clear H
       go_wp2_with (first | ((with_reducible refine gate_dst (N := 12) rfl ?_); refine Kd.R_lit k27 _ 27 ?hg (N := 12) ?hd (xs := ([] : List (S27))) (inner := []) (ok := fun _ => True) (okp := fun _ => True) ?hr ?hp (fun _ hk => hk) trivial (Below.refl _ _) (Nat.le_refl _) (by simp) ?_; (case hd => rfl); (case hg => rfl); (case hr => first | (go_simp; done) | (go_simp; rfl)); (case hp => exact (Reps.none _ _)); intro v691 w6 ho7 hb hg_ hnew_; clear hg_ hnew_; (first | rw [← Ny690.out] at ho7 | (simp only [Int.reduceToNat] at ho7; rw [← Ny690.out] at ho7)); have n0_ := Aside0.mk (Kd.S_elder' (by (with_reducible repeat (first | apply Kd.S_alloc | apply Kd.S_drewN | apply Kd.S_drew)); exact HO_3.out) (Kd.R_base ho7) hb); have n1_ := Aside0.mk (Kd.R_lower ho7 (below_size (bl_ HB.out))); have n2_ := Aside0.mk (below_step (bl_ HB.out) hb); clear HO_3 HB; have HO_3 := n0_; have HO692 := n1_; have HB := n2_; clear n0_ n1_ n2_ hb ho7; have p693 : 0 ≤ (x4_1 : Int) := of_decide_eq_true (by first | (with_reducible assumption) | assumption); have q693 : x4_1 < (l0.length : Int) := of_decide_eq_true (by first | (with_reducible assumption) | assumption); obtain ⟨ad693, A693_0, c693_0, e693, hx693_0, hl693_0, hi693_0⟩ := at_L2 HR0.out x4_1 p693 q693; cases e693; replace hx693_0 := (HB.out.cell (World.block_lt_of_cell? w _ hx693_0)).trans hx693_0; have HR693_0 := Aside0.mk hi693_0; have HC693_0 := Aside0.mk hl693_0; clear hi693_0 hl693_0; replace p693 := eq_true p693; replace q693 := eq_true q693) | ((with_reducible refine gate_builtin (b := .append) (xs := #[.tmp 12, .tmp 16]) rfl ?_); at_builtin; refine Kd.R_append_rows k27 (w0 := w) w.heap.size rfl (.tmp 12) (.tmp 16) 38 27 (.agg #[(.int .i64 0), (.int .i64 0)]) 16 rfl Try.underlying38 info27 rfl (by decide) (by omega) v691 y690 (rd_L2 l0 x4_1) _ _ _ (fun _ => True) (fun _ => False) rfl rfl ?aO ?aR (fun _ _ h => h) (fun _ h => h.elim) ?aF ?aB ?aS ?aL ?_; (case aR => exact cr_ (Kd.C_below HR693_0.out HB.out)); (case aB => exact (bl_ HB.out)); (case aF => exact (fun _ _ => trivial)); (case aO => exact (by (with_reducible repeat (first | apply Kd.R_alloc | apply Kd.R_drewN | apply Kd.R_drew)); exact HO692.out)); (case aS => exact (below_size (bl_ HB.out))); (case aL => have := LMc4.out; omega); intro v695 w8 ho hb hg hat; rw [← Ny694.out] at ho; have n0_ := Aside0.mk (Kd.S_after (ok := (fun _ => True)) (by (with_reducible repeat (first | apply Kd.S_alloc | apply Kd.S_drewN | apply Kd.S_drew)); exact HO_3.out) hg hat); have n1_ := Aside0.mk (hb); have n2_ := Aside0.mk (ho); clear HO_3 HB HO692; have HO_3 := n0_; have HB := n1_; have HO696 := n2_; clear n0_ n1_ n2_ ho hb hg hat; obtain ⟨Ao10, co10, eo10⟩ := Kd.R_slice HO696.out; subst eo10) | ((with_reducible refine gate_builtin (b := .append) (xs := #[.tmp 11, .tmp 18]) rfl ?_); at_builtin; refine Kd.S_append (Kd.slice 27 k27) (w0 := w) w.heap.size rfl (.tmp 11) (.tmp 18) 95 38 (.slice none 0 0) 24 rfl Try.underlying95 info38 rfl (by decide) (by omega) u3 x3_1 y694 [.slice Ao10 y694.length co10] (fun _ => True) (fun k_ => some k_ = (.slice Ao10 y694.length co10 : Value).ownBlock) rfl rfl ?aP (fun k_ hk_ => ((Kd.R_mono (ok' := fun k_ => ((fun _ => True)) k_ ∧ some k_ ≠ (u3 : Value).ownBlock) (Kd.R_apart' (HO696.out) (Kd.S_typed HO_3.out) (by decide)) (fun k_ hk => ⟨trivial, hk.2⟩))).1 k_ hk_.symm) ?aF ?aO ?aB ?aS ?aL ?_; (case aP => exact Kd.M_row (Kd.R_mono (Kd.R_tight rfl (Kd.R_mono (ok' := fun k_ => ((fun _ => True)) k_ ∧ some k_ ≠ (u3 : Value).ownBlock) (Kd.R_apart' (HO696.out) (Kd.S_typed HO_3.out) (by decide)) (fun k_ hk => ⟨trivial, hk.2⟩))) (fun _ h_ => h_))); (case aB => exact (bl_ HB.out)); (case aF => exact (fun _ _ => trivial)); (case aO => exact (by (with_reducible repeat (first | apply Kd.S_alloc | apply Kd.S_drewN | apply Kd.S_drew)); exact Kd.S_mono HO_3.out (fun k_ hk => ⟨trivial, fun e_ => hk.2 e_⟩))); (case aS => exact (below_size (bl_ HB.out))); (case aL => have := LMc5.out; omega); intro v698 w9 ho hb hg hat; rw [← Ny697.out] at ho; have n0_ := Aside0.mk (hb); have n1_ := Aside0.mk (ho); clear HB HO_3 HO696; have HB := n0_; have HO699 := n1_; clear n0_ n1_ ho hb hg hat))
       go_roundg k1
       case measure => have := HK1.out; omega
       case rel => exact ⟨(y697), (wrap64 (x4_1 + 1)), (by first | rfl | (simp; done) | (simp [*]; done)), H', ⟨by have := HK1.out; omega⟩, ⟨by (with_reducible repeat (first | apply Kd.S_alloc | apply Kd.S_drewN | apply Kd.S_drew)); exact HO699.out⟩, ⟨bl_ HB.out⟩⟩
      ·
       rw [if_neg c5] at H
       exact absurd H (by simp)
     ·
      rw [if_neg c4] at H
      exact absurd H (by simp)
    ·
     rw [if_neg c3] at H
     exact absurd H (by simp)
   ·
    rw [if_neg c2] at H
    have c2b0 : decide (x4_1 < (l0.length : Int)) = false := decide_eq_false c2
    clear c2
    obtain rfl := Option.some.inj H
    go_wp2
    go_ret
    exact ⟨_, by first | rfl | (simp [errW_none, errW_some] <;> rfl) | (simp [*, errW_none, errW_some] <;> rfl), by (with_reducible repeat (first | apply Kd.S_alloc | apply Kd.S_drewN | apply Kd.S_drew)); exact HO_3.out, bl_ HB.out⟩
end Go.Proofs.Yteodlmgmmpkpoaa.PS
end
section
namespace Go.Proofs.Yteodlmgmmpkpoaa.PS
open Go.RowKit Go.Proofs.YteodlmgmmpkpoaaW.PrintWords Go.Proofs.YteodlmgmmpkpoaaW.PrintLast Go.Proofs.YteodlmgmmpkpoaaW.PrintMore
attribute [local go_sem] max2_int min2_int max_two min_two max_three min_three max_four min_four   -- for this text's walks alone
set_option linter.unusedVariables false
set_option linter.unusedSimpArgs false
def swashplatelaw01_farBoxes.l0 : Nat → List (List (S27)) → Int → Option (Bool)
 | 0, _, _ => none
 | k + 1, x0, x3 => if x3 < (x0.length : Int) then (if 0 ≤ x3 then (if ((rd_L2 x0 x3).length : Int) > 6 then (some true) else (swashplatelaw01_farBoxes.l0 k x0 (wrap64 (x3 + 1)))) else (none)) else (some false)
def swashplatelaw01_farBoxes.f (k : Nat) (l0 : List (List (S27))) : Option (Bool) := if (l0.length : Int) > 25 then (some true) else (swashplatelaw01_farBoxes.l0 k l0 0)
set_option maxHeartbeats 8000000 in
set_option maxRecDepth 100000 in
theorem swashplatelaw01_farBoxes.calls (k : Nat) (A0 : Option Addr) (c0 : Nat) (l0 : List (List (S27))) (r : Bool) (w : World) (hr0 : Kd.C (Kd.slice 27 k27) w A0 l0.length l0) (hc0 : l0.length ≤ c0) (h : swashplatelaw01_farBoxes.f k l0 = some r) :
  Calls Try.prog 64 #[.slice A0 l0.length c0] w fun e w' => e = .returned (.bool r) ∧ Drawn0 w w' := by
 have HR0 := Aside0.mk hr0
 have HC0 := Aside0.mk hc0
 clear hr0 hc0
 have H : (if (l0.length : Int) > 25 then (some true) else (swashplatelaw01_farBoxes.l0 k l0 0)) = some r := h
 clear h
 by_cases c2 : (l0.length : Int) > 25
 ·
  rw [if_pos c2] at H
  have c2b0 : decide (25 < (l0.length : Int)) = true := decide_eq_true c2
  have c2b1 : decide (25 < l0.length) = true := decide_eq_true (by omega)
  clear c2
  obtain rfl := Option.some.inj H
  go_enter Try.func64, Try.ntmps64
  go_wp2
  go_ret
  exact ⟨by first | rfl | (simp; done) | (simp [*]; done), by repeat (first | exact Drawn0.refl _ | apply Drawn0.step)⟩
 ·
  rw [if_neg c2] at H
  have c2b0 : decide (25 < (l0.length : Int)) = false := decide_eq_false c2
  have c2b1 : decide (25 < l0.length) = false := decide_eq_false (by omega)
  clear c2
  have H' := Aside0.mk H
  clear H
  go_enter Try.func64, Try.ntmps64
  go_wp2
  go_loopg [3] k (fun kq v3 w' => ∃ (x3_1 : Int), v3 = .int .i64 x3_1 ∧ Aside0 (swashplatelaw01_farBoxes.l0 kq l0 x3_1 = some r) ∧ Aside0 (kq ≤ k) ∧ Drawn0 w w')
  case atStart => exact ⟨(0), (by first | rfl | (simp; done) | (simp [*]; done)), H', ⟨Nat.le_refl _⟩, by repeat (first | exact Drawn0.refl _ | apply Drawn0.step)⟩
  case round =>
   clear H'
   try clear c2
   try clear c2b0
   try clear c2b1
   try clear p2
   obtain ⟨x3_1, rfl, HA, HK1, ⟨m1, rfl⟩⟩ := hrel
   cases gk with
   | zero => exact absurd HA.out (by simp [swashplatelaw01_farBoxes.l0])
   | succ k1 =>
    have H := HA.out
    clear HA
    simp only [swashplatelaw01_farBoxes.l0] at H
    by_cases c3 : x3_1 < (l0.length : Int)
    ·
     rw [if_pos c3] at H
     have c3b0 : decide (x3_1 < (l0.length : Int)) = true := decide_eq_true c3
     clear c3
     by_cases c4 : 0 ≤ x3_1
     ·
      rw [if_pos c4] at H
      have c4b0 : decide (0 ≤ x3_1) = true := decide_eq_true c4
      clear c4
      by_cases c5 : ((rd_L2 l0 x3_1).length : Int) > 6
      ·
       rw [if_pos c5] at H
       have c5b0 : decide (6 < ((rd_L2 l0 x3_1).length : Int)) = true := decide_eq_true c5
       have c5b1 : decide (6 < (rd_L2 l0 x3_1).length) = true := decide_eq_true (by omega)
       clear c5
       obtain rfl := Option.some.inj H
       have p686 : 0 ≤ (x3_1 : Int) := of_decide_eq_true (by first | (with_reducible assumption) | assumption)
       have q686 : x3_1 < (l0.length : Int) := of_decide_eq_true (by first | (with_reducible assumption) | assumption)
       obtain ⟨ad686, A686_0, c686_0, e686, hx686_0, hl686_0, hi686_0⟩ := at_L2 HR0.out x3_1 p686 q686
       cases e686
       have HR686_0 := Aside0.mk hi686_0
       have HC686_0 := Aside0.mk hl686_0
       clear hi686_0 hl686_0
       replace p686 := eq_true p686
       replace q686 := eq_true q686
       go_wp2
       go_ret
       exact ⟨by first | rfl | (simp; done) | (simp [*]; done), by repeat (first | exact Drawn0.refl _ | apply Drawn0.step)⟩
      ·
       rw [if_neg c5] at H
       have c5b0 : decide (6 < ((rd_L2 l0 x3_1).length : Int)) = false := decide_eq_false c5
       have c5b1 : decide (6 < (rd_L2 l0 x3_1).length) = false := decide_eq_false (by omega)
       clear c5
       have H' := Aside0.mk H
       clear H
       have p686 : 0 ≤ (x3_1 : Int) := of_decide_eq_true (by first | (with_reducible assumption) | assumption)
       have q686 : x3_1 < (l0.length : Int) := of_decide_eq_true (by first | (with_reducible assumption) | assumption)
       obtain ⟨ad686, A686_0, c686_0, e686, hx686_0, hl686_0, hi686_0⟩ := at_L2 HR0.out x3_1 p686 q686
       cases e686
       have HR686_0 := Aside0.mk hi686_0
       have HC686_0 := Aside0.mk hl686_0
       clear hi686_0 hl686_0
       replace p686 := eq_true p686
       replace q686 := eq_true q686
       go_wp2
       go_roundg k1
       case measure => have := HK1.out; omega
       case rel => exact ⟨(wrap64 (x3_1 + 1)), (by first | rfl | (simp; done) | (simp [*]; done)), H', ⟨by have := HK1.out; omega⟩, by repeat (first | exact Drawn0.refl _ | apply Drawn0.step)⟩
     ·
      rw [if_neg c4] at H
      exact absurd H (by simp)
    ·
     rw [if_neg c3] at H
     have c3b0 : decide (x3_1 < (l0.length : Int)) = false := decide_eq_false c3
     clear c3
     obtain rfl := Option.some.inj H
     go_wp2
     go_ret
     exact ⟨by first | rfl | (simp; done) | (simp [*]; done), by repeat (first | exact Drawn0.refl _ | apply Drawn0.step)⟩
end Go.Proofs.Yteodlmgmmpkpoaa.PS
end
section
namespace Go.Proofs.Yteodlmgmmpkpoaa.PS
open Go.RowKit Go.Proofs.YteodlmgmmpkpoaaW.PrintWords Go.Proofs.YteodlmgmmpkpoaaW.PrintLast Go.Proofs.YteodlmgmmpkpoaaW.PrintMore
set_option linter.unusedVariables false
set_option linter.unusedSimpArgs false
theorem rdL2_nat (L : List (List S27)) (i : Nat) : rd_L2 L (i : Int) = L.getD i [] := by unfold rd_L2; rw [Int.toNat_natCast]
theorem restT_cons (a : List S27) (L : List (List S27)) (b : List S27) : restT (a :: L) b = cutT [] a b ++ restT L b := rfl
theorem left_inner (l L : List (List S27)) (b : List S27) (j : Nat) (r : List (List S27)) (K0 : Nat) (hj : j < l.length) (hl : l.length ≤ 100) (hb : l.getD j [] = b) (hbx : boxB b = true) (hL : L.length ≤ 1679616) (hLb : ∀ x ∈ L, boxB x = true ∧ x.length = b.length) (hK : 20 ≤ K0) :
    ∀ (k i : Nat) (acc : List (List S27)), i ≤ L.length → acc.length ≤ 6 * i → (L.length - i) + 1 + K0 ≤ k → (∀ k', K0 ≤ k' → swashplateref01_leftP.l0 k' l (acc ++ restT (L.drop i) b) ((j + 1 : Nat) : Int) = some r) → swashplateref01_leftP.l1 k l L j acc i = some r
  | 0, i, acc, _, _, h, _ => absurd h (by omega)
  | k + 1, i, acc, hi, ha, hk, hr => by
    simp only [swashplateref01_leftP.l1]
    by_cases hlt : i < L.length
    · have hx := hLb _ (getD_mem L [] i hlt)
      have e := drop_stepG [] L i hlt
      have h3 := boxB_size hx.1
      have hm := cutT_max (L.getD i []) b []
      rw [if_pos (by omega), if_pos (by omega), if_pos (by omega), if_pos (by omega), rdL2_nat, rdL2_nat, hb, refM_total _ _ _ (by omega), Option.bind_some]
      unfold minR
      rw [hx.1, hbx, Bool.true_and, if_pos rfl, if_pos hx.2, if_pos (show acc.length + (cutT [] (L.getD i []) b).length < 5864062014805 by omega), step64 i (by omega)]
      refine left_inner l L b j r K0 hj hl hb hbx hL hLb hK k (i + 1) _ (by omega) (by rw [List.length_append]; show acc.length + (cutT [] (L.getD i []) b).length ≤ _; omega) (by omega) (fun k' hk' => ?_)
      have := hr k' hk'
      rw [e, restT_cons, ← List.append_assoc] at this
      exact this
    · rw [if_neg (by omega), step64 j (by omega)]
      have := hr k (by omega)
      rw [List.drop_of_length_le (by omega), show restT [] b = [] from rfl, List.append_nil] at this
      exact this
theorem left_outer (M : Nat) (hM : 1679700 ≤ M) (a : List S27) (l : List (List S27)) (ha : boxB a = true) (hl8 : l.length ≤ 8) (hl : ∀ b ∈ l, boxB b = true ∧ b.length = a.length) (r : Nat) :
    ∀ (j k : Nat), r = l.length - j → j ≤ l.length → r * M + 100 ≤ k → swashplateref01_leftP.l0 k l (leftT a (l.take j)) j = some (leftT a l) := by
  induction r with
  | zero =>
    intro j k hr hj hk
    obtain ⟨k, rfl⟩ : ∃ m, k = m + 1 := ⟨k - 1, by omega⟩
    obtain rfl : j = l.length := by omega
    simp only [swashplateref01_leftP.l0]
    rw [if_neg (by omega), List.take_length]
  | succ r ih =>
    intro j k hr hj hk
    obtain ⟨k, rfl⟩ : ∃ m, k = m + 1 := ⟨k - 1, by omega⟩
    simp only [swashplateref01_leftP.l0]
    have hlt : j < l.length := by omega
    have hb := hl _ (getD_mem l [] j hlt)
    have hok := leftT_ok (a := a) (l := l.take j) ha rfl (fun x hx => hl x (List.mem_of_mem_take hx))
    have hp := pow6 (n := (l.take j).length) (by rw [List.length_take]; omega)
    rw [Nat.succ_mul] at hk
    obtain ⟨q, hq⟩ : ∃ q, r * M = q := ⟨_, rfl⟩
    rw [hq] at ih hk
    rw [if_pos (by omega)]
    refine left_inner l _ (l.getD j []) j _ (q + 100) hlt (by omega) rfl hb.1 (by omega) (fun x hx => ⟨(hok.1 x hx).1, (hok.1 x hx).2.trans hb.2.symm⟩) (by omega) k 0 [] (Nat.zero_le _) (by simp) (by omega) (fun k' hk' => ?_)
    rw [List.nil_append, List.drop_zero, ← leftT_snoc]
    have := ih (j + 1) k' (by omega) (by omega) hk'
    rw [List.take_succ_eq_append_getElem hlt] at this
    simpa [List.getD_eq_getElem?_getD, List.getElem?_eq_getElem hlt] using this
theorem left_total (a : List S27) (l : List (List S27)) (ha : boxB a = true) (hl8 : l.length ≤ 8) (hl : ∀ b ∈ l, boxB b = true ∧ b.length = a.length) (k : Nat) (hk : 15000000 ≤ k) : swashplateref01_leftP.f k a l = some (leftT a l) := by
  unfold swashplateref01_leftP.f
  obtain ⟨M, hM⟩ : ∃ M : Nat, M = 1700000 := ⟨_, rfl⟩
  have h1 : l.length * M ≤ 8 * M := Nat.mul_le_mul_right _ hl8
  exact left_outer M (by omega) a l ha hl8 hl l.length 0 k (by omega) (Nat.zero_le _) (by omega)
theorem cl1_loop (l : List (List S27)) (hl : l.length ≤ 1000) (n : Nat) : ∀ (k i : Nat), i ≤ l.length → l.length - i < k →
    swashplateref01_checkList.l1 k l (n : Int) i = some (if (l.drop i).all (fun b => b.length == n) then 0 else 1)
  | 0, i, _, h => absurd h (Nat.not_lt_zero _)
  | k + 1, i, hi, hk => by
    simp only [swashplateref01_checkList.l1]
    by_cases hlt : i < l.length
    · rw [if_pos (by omega), if_neg (by omega), if_pos (by omega), rdL2_nat, drop_stepG [] l i hlt, List.all_cons]
      by_cases hc : (l.getD i []).length = n
      · rw [if_pos (by omega), step64 i (by omega), cl1_loop l hl n k (i + 1) (by omega) (by omega), beq_iff_eq.2 hc, Bool.true_and]
      · rw [if_neg (by omega), show ((l.getD i []).length == n) = false from beq_eq_false_iff_ne.2 hc]
        rfl
    · rw [if_neg (by omega), List.drop_of_length_le (by omega)]
      rfl
theorem cl0_loop (l : List (List S27)) (hl : l.length ≤ 1000) (d : Int) (E : Int) : ∀ (k i : Nat), i ≤ l.length → (l.length - i) + l.length + 20 ≤ k → (∀ k', l.length < k' → swashplateref01_checkList.l1 k' l d 0 = some E) →
    swashplateref01_checkList.l0 k l d i = some (if (l.drop i).all boxB then E else 10)
  | 0, i, _, h, _ => absurd h (by omega)
  | k + 1, i, hi, hk, hE => by
    simp only [swashplateref01_checkList.l0]
    by_cases hlt : i < l.length
    · rw [if_pos (by omega), if_pos (by omega), rdL2_nat, rcheck_total _ _ (by omega), Option.bind_some, drop_stepG [] l i hlt, List.all_cons]
      rcases Bool.eq_false_or_eq_true (boxB (l.getD i [])) with hb | hb
      · rw [hb, if_pos rfl, if_pos rfl, step64 i (by omega), cl0_loop l hl d E k (i + 1) (by omega) (by omega) hE, Bool.true_and]
      · rw [hb, if_neg (show ¬ (false = true) by decide), if_neg (show ¬ ((10 : Int) = 0) by decide), Bool.false_and, if_neg (show ¬ (false = true) by decide)]
    · rw [if_neg (by omega), List.drop_of_length_le (by omega), List.all_nil, if_pos rfl]
      exact hE k (by omega)
theorem cl_free (l : List (List S27)) (hl : l.length ≤ 20) (k : Nat) (hk : 100 ≤ k) : swashplateref01_checkList.f k l (-1) = some (listE l) := by
  unfold swashplateref01_checkList.f
  rw [if_neg (by omega)]
  have hE : ∀ k', l.length < k' → swashplateref01_checkList.l1 k' l (-1) 0 = some (if l.all (fun b => b.length == (l.headD []).length) then 0 else 1) := by
    intro k' hk'
    obtain ⟨k', rfl⟩ : ∃ m, k' = m + 1 := ⟨k' - 1, by omega⟩
    cases l with
    | nil => simp [swashplateref01_checkList.l1]
    | cons b l =>
      have h0 : rd_L2 (b :: l) 0 = b := rfl
      have := cl1_loop (b :: l) (by omega) b.length k' 1 (by simp) (by simp only [List.length_cons] at *; omega)
      simp only [swashplateref01_checkList.l1]
      rw [if_pos (by simp only [List.length_cons]; omega), if_pos (by omega), if_pos (by simp only [List.length_cons]; omega), if_pos (by omega), h0, if_pos trivial, show wrap64 (0 + 1) = ((1 : Nat) : Int) from by rw [wr64 (by omega) (by omega)]; rfl, this]
      simp
  have := cl0_loop l (by omega) (-1) _ k 0 (Nat.zero_le _) (by omega) hE
  rw [List.drop_zero] at this
  exact this
theorem cl_many (l : List (List S27)) (hl : 20 < l.length) (d : Int) (k : Nat) : swashplateref01_checkList.f k l d = some 2 := by
  unfold swashplateref01_checkList.f
  rw [if_pos (by omega)]
theorem copyB_loop (l : List (List S27)) (hl : l.length ≤ 1000) (hd : ∀ x ∈ l, x.length ≤ 1000) : ∀ (k i : Nat), i ≤ l.length → l.length - i < k → swashplateref01_CopyBoxes.l0 k l (l.take i) i = some l
  | 0, i, _, h => absurd h (Nat.not_lt_zero _)
  | k + 1, i, hi, hk => by
    simp only [swashplateref01_CopyBoxes.l0]
    by_cases hlt : i < l.length
    · have hx := hd _ (getD_mem l [] i hlt)
      rw [if_pos (by omega), Option.bind_some, if_pos (by omega), rdL2_nat, if_pos (by simp only [List.length_nil]; omega), if_pos (by rw [List.length_take]; omega), List.nil_append, step64 i (by omega)]
      have := copyB_loop l hl hd k (i + 1) (by omega) (by omega)
      rw [List.take_succ_eq_append_getElem hlt] at this
      simpa [List.getD_eq_getElem?_getD, List.getElem?_eq_getElem hlt] using this
    · obtain rfl : i = l.length := by omega
      rw [if_neg (by omega), List.take_length]
theorem copyB_total (l : List (List S27)) (hl : l.length ≤ 1000) (hd : ∀ x ∈ l, x.length ≤ 1000) (k : Nat) (hk : l.length < k) : swashplateref01_CopyBoxes.f k l = some l := by
  unfold swashplateref01_CopyBoxes.f
  exact copyB_loop l hl hd k 0 (Nat.zero_le _) (by omega)
def farL (l : List (List S27)) : Bool := decide (25 < l.length) || l.any fun x => decide (6 < x.length)
theorem farL_loop (l : List (List S27)) (hl : l.length ≤ 25) : ∀ (k i : Nat), i ≤ l.length → l.length - i < k → swashplatelaw01_farBoxes.l0 k l i = some ((l.drop i).any fun x => decide (6 < x.length))
  | 0, i, _, h => absurd h (Nat.not_lt_zero _)
  | k + 1, i, hi, hk => by
    simp only [swashplatelaw01_farBoxes.l0]
    by_cases hlt : i < l.length
    · rw [if_pos (by omega), if_pos (by omega), rdL2_nat, drop_stepG [] l i hlt, List.any_cons]
      by_cases hc : 6 < (l.getD i []).length
      · rw [if_pos (by omega), decide_eq_true hc, Bool.true_or]
      · rw [if_neg (by omega), step64 i (by omega), farL_loop l hl k (i + 1) (by omega) (by omega), decide_eq_false hc, Bool.false_or]
    · rw [if_neg (by omega), List.drop_of_length_le (by omega)]
      rfl
theorem farL_total (l : List (List S27)) (k : Nat) (hk : 30 ≤ k) : swashplatelaw01_farBoxes.f k l = some (farL l) := by
  unfold swashplatelaw01_farBoxes.f farL
  by_cases h : 25 < l.length
  · rw [if_pos (by omega), decide_eq_true h, Bool.true_or]
  · rw [if_neg (by omega), decide_eq_false h, Bool.false_or]
    have := farL_loop l (by omega) k 0 (Nat.zero_le _) (by omega)
    rwa [List.drop_zero] at this
theorem farL_false {l : List (List S27)} (h : farL l = false) : l.length ≤ 25 ∧ ∀ x ∈ l, x.length ≤ 6 := by
  unfold farL at h
  simp only [Bool.or_eq_false_iff, decide_eq_false_iff_not, List.any_eq_false, decide_eq_true_eq] at h
  exact ⟨by omega, fun x hx => by have := h.2 x hx; omega⟩
end Go.Proofs.Yteodlmgmmpkpoaa.PS
end
section
namespace Go.Proofs.Yteodlmgmmpkpoaa.PS
open Go.RowKit Go.Proofs.YteodlmgmmpkpoaaW.PrintWords Go.Proofs.YteodlmgmmpkpoaaW.PrintLast Go.Proofs.YteodlmgmmpkpoaaW.PrintMore
set_option linter.unusedVariables false
set_option linter.unusedSimpArgs false
def sumR (n : Nat) (f : Int → Nat) : Nat := match n with
  | 0 => 0
  | n + 1 => sumR n f + f n
theorem sumR_add (n : Nat) (f g : Int → Nat) : sumR n (fun i => f i + g i) = sumR n f + sumR n g := by
  induction n with
  | zero => rfl
  | succ n ih => simp only [sumR, ih]; omega
theorem sumR_mono (n : Nat) (f g : Int → Nat) (h : ∀ i, f i ≤ g i) : sumR n f ≤ sumR n g := by
  induction n with
  | zero => exact Nat.le_refl _
  | succ n ih => simp only [sumR]; have := h n; omega
theorem sumR_const (n c : Nat) : sumR n (fun _ => c) = n * c := by
  induction n with
  | zero => simp [sumR]
  | succ n ih => simp only [sumR, ih, Nat.succ_mul]
theorem sumR_ind (A B c : Nat) (h : A ≤ B + 1) (n : Nat) : sumR n (fun i => if (A : Int) ≤ i ∧ i ≤ B then c else 0) = (min n (B + 1) - min n A) * c := by
  induction n with
  | zero => simp [sumR]
  | succ n ih =>
    simp only [sumR, ih]
    by_cases hc : (A : Int) ≤ n ∧ (n : Int) ≤ B
    · rw [if_pos hc, show min (n + 1) (B + 1) - min (n + 1) A = (min n (B + 1) - min n A) + 1 by omega, Nat.succ_mul]
    · rw [if_neg hc, Nat.add_zero, show min (n + 1) (B + 1) - min (n + 1) A = min n (B + 1) - min n A by omega]
def intg (n : Nat) (o : Int) : Nat → (List Int → Nat) → Nat
  | 0, f => f []
  | d + 1, f => sumR n fun i => intg n o d fun p => f ((i - o) :: p)
theorem intg_add (n : Nat) (o : Int) : ∀ (d : Nat) (f g : List Int → Nat), intg n o d (fun p => f p + g p) = intg n o d f + intg n o d g
  | 0, f, g => rfl
  | d + 1, f, g => by
    simp only [intg]
    rw [← sumR_add]
    congr 1
    funext i
    exact intg_add n o d _ _
theorem intg_mono (n : Nat) (o : Int) : ∀ (d : Nat) (f g : List Int → Nat), (∀ p, p.length = d → f p ≤ g p) → intg n o d f ≤ intg n o d g
  | 0, f, g, h => h [] rfl
  | d + 1, f, g, h => sumR_mono _ _ _ fun i => intg_mono n o d _ _ fun p hp => h _ (by simp [hp])
theorem intg_zero (n : Nat) (o : Int) : ∀ d : Nat, intg n o d (fun _ => 0) = 0
  | 0 => rfl
  | d + 1 => by
    simp only [intg, intg_zero n o d]
    rw [sumR_const, Nat.mul_zero]
theorem intg_one (n : Nat) (o : Int) : ∀ d : Nat, intg n o d (fun _ => 1) = n ^ d
  | 0 => rfl
  | d + 1 => by
    simp only [intg, intg_one n o d]
    rw [sumR_const, Nat.pow_succ, Nat.mul_comm]
def volN (b : List S27) : Nat := match b with
  | [] => 1
  | s :: b => (s.f1 - s.f0 + 1).toNat * volN b
theorem intg_box (n : Nat) (hn : n = 2000001) : ∀ b : List S27, okA b = true → intg n 1000000 b.length (fun p => if inT p b then 1 else 0) = volN b
  | [], _ => by simp [intg, inT, volN]
  | s :: b, h => by
    obtain ⟨h1, h2⟩ := (okA_cons _ _).1 h
    have ih := intg_box n hn b h2
    have key : ∀ i : Int, intg n 1000000 b.length (fun p => if inT ((i - 1000000) :: p) (s :: b) then 1 else 0) = if (((s.f0 + 1000000).toNat : Nat) : Int) ≤ i ∧ i ≤ (((s.f1 + 1000000).toNat : Nat) : Int) then volN b else 0 := by
      intro i
      by_cases hc : (((s.f0 + 1000000).toNat : Nat) : Int) ≤ i ∧ i ≤ (((s.f1 + 1000000).toNat : Nat) : Int)
      · rw [if_pos hc, ← ih]
        congr 1
        funext p
        have e : inT ((i - 1000000) :: p) (s :: b) = inT p b := by
          show ((decide (s.f0 ≤ i - 1000000) && decide (i - 1000000 ≤ s.f1)) && inT p b) = inT p b
          rw [decide_eq_true (show s.f0 ≤ i - 1000000 by omega), decide_eq_true (show i - 1000000 ≤ s.f1 by omega), Bool.and_self, Bool.true_and]
        rw [e]
      · rw [if_neg hc]
        refine Eq.trans ?_ (intg_zero n 1000000 b.length)
        congr 1
        funext p
        have e : inT ((i - 1000000) :: p) (s :: b) = false := by
          show ((decide (s.f0 ≤ i - 1000000) && decide (i - 1000000 ≤ s.f1)) && inT p b) = false
          rw [show (decide (s.f0 ≤ i - 1000000) && decide (i - 1000000 ≤ s.f1)) = false by rw [Bool.and_eq_false_iff, decide_eq_false_iff_not, decide_eq_false_iff_not]; omega, Bool.false_and]
        rw [e]
        rfl
    show sumR n (fun i => intg n 1000000 b.length fun p => if inT ((i - 1000000) :: p) (s :: b) then 1 else 0) = _
    simp only [key]
    rw [sumR_ind _ _ _ (by omega)]
    show _ = (s.f1 - s.f0 + 1).toNat * volN b
    congr 1
    omega
theorem cnt_cons (p : List Int) (x : List S27) (L : List (List S27)) : cnt p (x :: L) = (if inT p x then 1 else 0) + cnt p L := by
  rw [show x :: L = [x] ++ L from rfl, cnt_app, cnt_one]
def volL (L : List (List S27)) : Nat := match L with
  | [] => 0
  | x :: L => volN x + volL L
theorem intg_cnt (n : Nat) (hn : n = 2000001) (d : Nat) : ∀ L : List (List S27), (∀ x ∈ L, okA x = true ∧ x.length = d) → intg n 1000000 d (fun p => cnt p L) = volL L
  | [], _ => by simp only [cnt_nil, volL]; exact intg_zero n _ d
  | x :: L, h => by
    have hx := h x List.mem_cons_self
    simp only [cnt_cons, volL]
    rw [intg_add, intg_cnt n hn d L (fun y hy => h y (List.mem_cons_of_mem _ hy)), ← hx.2, intg_box n hn x hx.1]
theorem rest_cnt (p : List Int) (b : List S27) (hb : okA b = true) (hp : p.length = b.length) : ∀ L : List (List S27), (∀ x ∈ L, okA x = true ∧ x.length = b.length) → cnt p (restT L b) = if inT p b then 0 else cnt p L
  | [], _ => by simp [restT, cnt_nil]
  | x :: L, h => by
    have hx := h x List.mem_cons_self
    have hc := cut_cnt x b p [] [] hx.2 (by omega) rfl hx.1 hb
    rw [List.nil_append, show inT [] [] = true by simp [inT], Bool.true_and] at hc
    rw [restT_cons, cnt_app, rest_cnt p b hb hp L (fun y hy => h y (List.mem_cons_of_mem _ hy)), hc, cnt_cons]
    rcases Bool.eq_false_or_eq_true (inT p b) with hv | hv
    · simp [hv]
    · rcases Bool.eq_false_or_eq_true (inT p x) with hu | hu <;> simp [hv, hu]
theorem left_cnt (p : List Int) (a : List S27) (ha : okA a = true) (hp : p.length = a.length) (l : List (List S27)) (hl : ∀ b ∈ l, okA b = true ∧ b.length = a.length) : cnt p (leftT a l) = if inT p a && l.all (fun b => !inT p b) then 1 else 0 := by
  have key : ∀ (m : List (List S27)), (∀ b ∈ m, okA b = true ∧ b.length = a.length) → ∀ L : List (List S27), (∀ x ∈ L, okA x = true ∧ x.length = a.length) → cnt p (m.foldl restT L) = if m.all (fun b => !inT p b) then cnt p L else 0 := by
    intro m
    induction m with
    | nil => intro _ L _; simp
    | cons b m ih =>
      intro hm L hL
      have hb := hm b List.mem_cons_self
      have hR : ∀ x ∈ restT L b, okA x = true ∧ x.length = a.length := fun x hx => by
        obtain ⟨y, hy, hx⟩ := List.mem_flatMap.1 hx
        have hd := cutT_dim y b [] x hx
        rw [List.length_nil, Nat.zero_add] at hd
        exact ⟨cutT_ok y b [] x rfl (hL y hy).1 hb.1 hx, hd.trans (hL y hy).2⟩
      rw [List.foldl_cons, ih (fun x hx => hm x (List.mem_cons_of_mem _ hx)) _ hR, rest_cnt p b hb.1 (by omega) L (fun x hx => ⟨(hL x hx).1, (hL x hx).2.trans hb.2.symm⟩), List.all_cons]
      rcases Bool.eq_false_or_eq_true (inT p b) with hv | hv <;> simp [hv]
  have := key l hl [a] (by intro x hx; rw [List.mem_singleton.1 hx]; exact ⟨ha, rfl⟩)
  unfold leftT
  rw [this, cnt_one]
  rcases Bool.eq_false_or_eq_true (inT p a) with hu | hu <;> simp [hu]
def totP : List (List S27) → List (List S27) → List Int → Nat
  | _, [], _ => 0
  | pre, a :: l, p => cnt p (leftT a pre) + totP (pre ++ [a]) l p
def totV : List (List S27) → List (List S27) → Nat
  | _, [] => 0
  | pre, a :: l => volL (leftT a pre) + totV (pre ++ [a]) l
theorem tot_le (d : Nat) (p : List Int) (hp : p.length = d) : ∀ (l pre : List (List S27)), (∀ b ∈ pre ++ l, okA b = true ∧ b.length = d) → totP pre l p ≤ if pre.all (fun b => !inT p b) then 1 else 0
  | [], pre, _ => Nat.zero_le _
  | a :: l, pre, h => by
    have ha := h a (by simp)
    have ih := tot_le d p hp l (pre ++ [a]) (by rw [List.append_assoc]; exact h)
    simp only [totP]
    rw [left_cnt p a ha.1 (by omega) pre (fun b hb => ⟨(h b (by simp [hb])).1, (h b (by simp [hb])).2.trans ha.2.symm⟩)]
    rw [List.all_append, List.all_cons, List.all_nil, Bool.and_true] at ih
    rcases Bool.eq_false_or_eq_true (inT p a) with hu | hu <;> rcases Bool.eq_false_or_eq_true (pre.all fun b => !inT p b) with hv | hv <;> simp [hu, hv] at ih ⊢ <;> omega
theorem tot_int (n : Nat) (hn : n = 2000001) (d : Nat) : ∀ (l pre : List (List S27)), (∀ b ∈ pre ++ l, okA b = true ∧ b.length = d) → (∀ b ∈ pre ++ l, boxB b = true) → intg n 1000000 d (totP pre l) = totV pre l
  | [], pre, _, _ => intg_zero n _ d
  | a :: l, pre, h, hb => by
    have ha := h a (by simp)
    have ih := tot_int n hn d l (pre ++ [a]) (by rw [List.append_assoc]; exact h) (by rw [List.append_assoc]; exact hb)
    have hok := leftT_ok (a := a) (l := pre) (n := d) (hb a (by simp)) ha.2 (fun b hm => ⟨hb b (by simp [hm]), (h b (by simp [hm])).2⟩)
    show intg n 1000000 d (fun p => cnt p (leftT a pre) + totP (pre ++ [a]) l p) = _
    rw [intg_add, intg_cnt n hn d _ (fun x hx => ⟨boxB_ok (hok.1 x hx).1, (hok.1 x hx).2⟩)]
    exact congrArg (volL (leftT a pre) + ·) ih
theorem tot_bound (d : Nat) (hd : d ≤ 3) (l : List (List S27)) (h : ∀ b ∈ l, boxB b = true ∧ b.length = d) : totV [] l ≤ 8000012000006000001 := by
  obtain ⟨n, hn⟩ : ∃ n : Nat, n = 2000001 := ⟨_, rfl⟩
  rw [← tot_int n hn d l [] (fun b hb => ⟨boxB_ok (h b hb).1, (h b hb).2⟩) (fun b hb => (h b hb).1)]
  refine Nat.le_trans (intg_mono n 1000000 d _ (fun _ => 1) (fun p hp => ?_)) ?_
  · exact Nat.le_trans (tot_le d p hp l [] (fun b hb => ⟨boxB_ok (h b hb).1, (h b hb).2⟩)) (by split <;> omega)
  · rw [intg_one]
    refine Nat.le_trans (Nat.pow_le_pow_right (by omega) hd) ?_
    rw [hn]
    decide
end Go.Proofs.Yteodlmgmmpkpoaa.PS
end
section
namespace Go.Proofs.Yteodlmgmmpkpoaa.PS
open Go.RowKit Go.Shelf Go.Proofs.YteodlmgmmpkpoaaW.PrintWords Go.Proofs.YteodlmgmmpkpoaaW.PrintLast Go.Proofs.YteodlmgmmpkpoaaW.PrintMore
set_option linter.unusedVariables false
set_option linter.unusedSimpArgs false
attribute [local go_sem] Oper.semAt_some
def bndT : Nat → Int
  | 0 => 1
  | 1 => 2000001
  | 2 => 4000004000001
  | _ => 8000012000006000001
theorem bnd_le : ∀ d : Nat, bndT d ≤ 8000012000006000001
  | 0 => by decide
  | 1 => by decide
  | 2 => by decide
  | _ + 3 => Int.le_refl _
theorem min_sat (x : Int) : (if 1000000000000000000 < x then 1000000000000000000 else x) = min x 1000000000000000000 := by split <;> omega
theorem mul_bnd {d : Nat} {x y : Int} (hd : d < 3) (h1 : 1 ≤ x) (h2 : x ≤ bndT d) (h3 : 1 ≤ y) (h4 : y ≤ 2000001) : 1 ≤ x * y ∧ x * y ≤ bndT (d + 1) ∧ x * y ≤ 8000012000006000001 := by
  have hb : bndT d * 2000001 = bndT (d + 1) ∧ bndT (d + 1) ≤ 8000012000006000001 := by
    rcases (show d = 0 ∨ d = 1 ∨ d = 2 by omega) with rfl | rfl | rfl <;> decide
  have h5 : x * y ≤ bndT d * 2000001 := Int.mul_le_mul h2 h4 (by omega) (by omega)
  have h6 : 0 < x * y := Int.mul_pos (by omega) (by omega)
  omega
def spans_CountP.f (l : List (List S27)) : Option (Int × Int) :=
  if 20 < l.length then some (0, 2) else if 8 < l.length then none else some (if listE l = 0 then (countT [] l 0, 0) else (0, listE l))
set_option maxRecDepth 100000 in
set_option maxHeartbeats 4000000 in
theorem spans_CountP.calls (A0 : Option Addr) (c0 : Nat) (l0 : List (List (S27))) (r1 : Int) (r2 : Int) (w : World) (hr0 : Kd.C (Kd.slice 27 k27) w A0 l0.length l0) (hc0 : l0.length ≤ c0) (h : spans_CountP.f l0 = some (r1, r2)) :
    Calls Try.prog 65 #[.slice A0 l0.length c0] w fun e w' => e = .returned (.tuple #[.int .i64 r1, .int .i64 r2]) ∧ Below w.heap.size w w' := by
  have HR0 := Aside0.mk hr0
  clear hr0
  refine (callsIn_wide (n := 7)).1 (callsIn_of_wp Try.func65 rfl trivial ?_ rfl)
  simp only [Try.ntmps65, List.size_toArray, List.length_cons, List.length_nil, Nat.reduceAdd, Nat.reduceSub, Array.replicate_succ, Array.replicate_zero, List.push_toArray, List.append_toArray, List.nil_append, List.cons_append]
  unfold spans_CountP.f at h
  by_cases hm : 20 < l0.length
  · rw [if_pos hm] at h
    cases h
    have hdec : decide ((l0.length : Int) > 20) = true := decide_eq_true (by omega)
    gi_wp2
    refine bodyPost_ret (results_list (rs := [.tmp 2, .tmp 3]) rfl (by simp) (.tmp (.tmp .nil))) rfl ?_
    exact ⟨rfl, Below.refl _ _⟩
  · rw [if_neg hm] at h
    by_cases h8 : 8 < l0.length
    · rw [if_pos h8] at h
      cases h
    · rw [if_neg h8] at h
      have H := Aside0.mk (Option.some.inj h)
      clear h
      have hdec : decide ((l0.length : Int) > 20) = false := decide_eq_false (by omega)
      have ck := Aside0.mk (checkL_total l0 (by omega) 1000 (by omega))
      by_cases he : listE l0 = 0
      · have HE := Aside0.mk he
        rw [he] at ck
        rw [if_pos he] at H
        clear he
        have HL : Aside0 (l0.length ≤ 8) := ⟨by omega⟩
        gi_wp2_with (refine ⟨trivial, ?_⟩; gi_at_call 124; refine (callsIn_wide.2 (spans_check.calls 1000 A0 c0 l0 _ _ (by repeat (first | exact HR0.out | (with_reducible refine Kd.C_alloc ?_ _) | (with_reducible refine Kd.C_drewN ?_ _) | (with_reducible refine Kd.C_drew ?_))) hc0 ck.out)).mono ?_; rintro e w1 ⟨rfl, hb1⟩)
        have HB1 := Aside0.mk hb1
        clear hb1
        gi_loopw [2, 25] (fun v2 v25 wr => ∃ (i : Nat) (s : Int), v2 = .int .i64 s ∧ v25 = .int .i64 i ∧ Aside0 (i ≤ l0.length ∧ 0 ≤ s ∧ s ≤ 1000000000000000000 ∧ countT (l0.take i) (l0.drop i) s = countT [] l0 0) ∧ Aside0 (Below w.heap.size w wr)) (fun _ v25 _ => l0.length - (intOf v25).toNat)
        case atStart => exact ⟨0, 0, rfl, rfl, ⟨Nat.zero_le _, by omega, by omega, by rw [List.take_zero, List.drop_zero]⟩, HB1⟩
        case round =>
          obtain ⟨i, s, rfl, rfl, HI, HB⟩ := hrel
          by_cases hi : i < l0.length
          · obtain ⟨ad, A1, c1, rfl, hcell, hc1, hCa⟩ := at_L2 (Kd.C_below HR0.out HB.out) (i : Int) (by omega) (by omega)
            rw [Int.toNat_natCast] at hcell
            obtain ⟨a, ha⟩ : ∃ a, rd_L2 l0 (i : Int) = a := ⟨_, rfl⟩
            rw [ha] at hcell hc1 hCa
            have hga : l0.getD i [] = a := by rw [← ha]; unfold rd_L2; rw [Int.toNat_natCast]
            have HA : Aside0 (a ∈ l0 ∧ boxB a = true ∧ a.length = (l0.headD []).length ∧ l0.drop i = a :: l0.drop (i + 1) ∧ l0.take (i + 1) = l0.take i ++ [a]) := by
              have hmem : a ∈ l0 := by rw [← hga]; exact getD_mem l0 [] i hi
              refine ⟨hmem, (listE_ok HE.out a hmem).1, (listE_ok HE.out a hmem).2, ?_, ?_⟩
              · rw [drop_stepG [] l0 i hi, hga]
              · rw [List.take_succ_eq_append_getElem hi, ← hga]
                simp [List.getD_eq_getElem?_getD, List.getElem?_eq_getElem hi]
            have HCa := Aside0.mk hCa
            clear hCa ha hga
            have hdi : decide ((i : Int) < (l0.length : Int)) = true := decide_eq_true (by omega)
            gi_wp2
            have HB2 : Aside0 (Below w.heap.size w (wr.alloc (.cells #[.slice A1 a.length c1] 38))) := ⟨below_alloc HB.out _⟩
            have HRd0 : Aside0 (Rd (wr.alloc (.cells #[.slice A1 a.length c1] 38)) (.slice (some ⟨wr.heap.size, 0, none⟩) 1 1) [a]) := ⟨⟨_, _, rfl, Nat.le_refl _, slice_lit HCa.out hc1⟩⟩
            have hi8 : i < l0.length := hi
            gi_loopw [7, 36] (fun v7 v36 ws => ∃ (j : Nat), v36 = .int .i64 j ∧ Aside0 (j ≤ i) ∧ Aside0 (Rd ws v7 (leftT a (l0.take j))) ∧ Aside0 (Below w.heap.size w ws)) (fun _ v36 _ => i - (intOf v36).toNat)
            case atStart => exact ⟨0, rfl, ⟨Nat.zero_le _⟩, HRd0, HB2⟩
            case round =>
              obtain ⟨j, rfl, HJ, HRd, HBs⟩ := hrel
              by_cases hj : j < i
              · obtain ⟨ad', A2, c2, e2, hcell2, hc2, hCb⟩ := at_L2 (Kd.C_below HR0.out HBs.out) (j : Int) (by omega) (by have := HJ.out; omega)
                obtain rfl : ad = ad' := by injection e2
                rw [Int.toNat_natCast] at hcell2
                obtain ⟨b, hb⟩ : ∃ b, rd_L2 l0 (j : Int) = b := ⟨_, rfl⟩
                rw [hb] at hcell2 hc2 hCb
                have hgb : l0.getD j [] = b := by rw [← hb]; unfold rd_L2; rw [Int.toNat_natCast]
                have hmem : b ∈ l0 := by rw [← hgb]; exact getD_mem l0 [] j (by omega)
                have HBb : Aside0 (b ∈ l0 ∧ boxB b = true ∧ b.length = (l0.headD []).length ∧ l0.take (j + 1) = l0.take j ++ [b]) := by
                  refine ⟨hmem, (listE_ok HE.out b hmem).1, (listE_ok HE.out b hmem).2, ?_⟩
                  rw [List.take_succ_eq_append_getElem (by omega), ← hgb]
                  simp [List.getD_eq_getElem?_getD, List.getElem?_eq_getElem (show j < l0.length by omega)]
                have hall := leftT_ok (a := a) (l := l0.take j) HA.out.2.1 HA.out.2.2.1 (fun x hx => listE_ok HE.out x (List.mem_of_mem_take hx))
                have hp6 := pow6 (n := (l0.take j).length) (by rw [List.length_take]; have := HL.out; omega)
                have HCb := Aside0.mk hCb
                have HAll := Aside0.mk hall
                have HP6 : Aside0 ((leftT a (l0.take j)).length ≤ 100000000) := ⟨by have := hall.2; omega⟩
                obtain ⟨A7, c7, rfl, hc7, hC7⟩ := HRd.out
                have HC7 := Aside0.mk hC7
                have hdj : decide ((j : Int) < (i : Int)) = true := decide_eq_true (by omega)
                have wj : IntKind.i64.wrap ((j : Int) + 1) = ((j + 1 : Nat) : Int) := by rw [wrI (by omega) (by omega)]; rfl
                clear hCb hall hp6 hC7 hb hgb hmem e2
                gi_wp2_with (refine ⟨trivial, ?_⟩; gi_at_call 123; refine (callsIn_wide.2 (rest.calls A7 c7 _ A2 c2 b HBb.out.2.1 (fun x hx => ⟨(HAll.out.1 x hx).1, (HAll.out.1 x hx).2.trans HBb.out.2.2.1.symm⟩) HP6.out _ HC7.out hc7 HCb.out hc2)).mono ?_; rintro e w2 ⟨v, rfl, hS, hb2⟩)
                refine ⟨⟨j + 1, by rw [Int.natCast_succ], ⟨by omega⟩, ⟨?_⟩, ⟨HBs.out.trans (hb2.mono HBs.out.size)⟩⟩, ?_⟩
                · rw [HBb.out.2.2.2, leftT_snoc]
                  exact Rd.of_S hS
                · show i - ((j : Int) + 1).toNat < i - (j : Int).toNat
                  omega
              · obtain rfl : j = i := by have := HJ.out; omega
                have hdj : decide ((j : Int) < (j : Int)) = false := decide_eq_false (by omega)
                have hall := leftT_ok (a := a) (l := l0.take j) HA.out.2.1 HA.out.2.2.1 (fun x hx => listE_ok HE.out x (List.mem_of_mem_take hx))
                have hp6 := pow6 (n := (l0.take j).length) (by rw [List.length_take]; have := HL.out; omega)
                obtain ⟨L, hLe⟩ : ∃ L, leftT a (l0.take j) = L := ⟨_, rfl⟩
                have HLe := Aside0.mk hLe
                rw [hLe] at HRd hall
                have HAll := Aside0.mk hall.1
                have HLL : Aside0 (L.length ≤ 100000000) := ⟨by omega⟩
                obtain ⟨A7, c7, rfl, hc7, hC7⟩ := HRd.out
                have HC7 := Aside0.mk hC7
                clear hall hp6 hLe hC7
                gi_wp2
                gi_loopw [2, 46] (fun v2 v46 wt => ∃ (m : Nat) (s2 : Int), v2 = .int .i64 s2 ∧ v46 = .int .i64 m ∧ Aside0 (m ≤ L.length ∧ 0 ≤ s2 ∧ s2 ≤ 1000000000000000000 ∧ satT ((L.drop m).map sizeT) s2 = satT (L.map sizeT) s) ∧ Aside0 (Below wr.heap.size wr wt)) (fun _ v46 _ => L.length - (intOf v46).toNat)
                case atStart => exact ⟨0, s, rfl, rfl, ⟨Nat.zero_le _, HI.out.2.1, HI.out.2.2.1, by rw [List.drop_zero]⟩, ⟨Below.refl _ _⟩⟩
                case round =>
                  obtain ⟨m, s2, rfl, rfl, HM, HBt⟩ := hrel
                  by_cases hm2 : m < L.length
                  · obtain ⟨ad7, A8, c8, rfl, hcell8, hc8, hCx⟩ := at_L2 (Kd.C_below HC7.out HBt.out) (m : Int) (by omega) (by omega)
                    rw [Int.toNat_natCast] at hcell8
                    obtain ⟨x, hx⟩ : ∃ x, rd_L2 L (m : Int) = x := ⟨_, rfl⟩
                    rw [hx] at hcell8 hc8 hCx
                    have hgx : L.getD m [] = x := by rw [← hx]; unfold rd_L2; rw [Int.toNat_natCast]
                    have HX : Aside0 (boxB x = true ∧ L.drop m = x :: L.drop (m + 1)) := ⟨(HAll.out x (by rw [← hgx]; exact getD_mem L [] m hm2)).1, by rw [drop_stepG [] L m hm2, hgx]⟩
                    have HCx := Aside0.mk hCx
                    clear hCx hx hgx
                    have hdm : decide ((m : Int) < (L.length : Int)) = true := decide_eq_true (by omega)
                    gi_wp2
                    have HB3 := Aside0.mk (Below.refl wr.heap.size wr)
                    have h3 := Aside0.mk (boxB_size HX.out.1)
                    gi_loopw [12, 52] (fun v12 v52 wu => ∃ (d : Nat) (pt : Int), v12 = .int .i64 pt ∧ v52 = .int .i64 d ∧ Aside0 (d ≤ x.length ∧ 1 ≤ pt ∧ pt ≤ bndT d ∧ (x.drop d).foldl (fun n s => n * (s.f1 - s.f0 + 1)) pt = sizeT x) ∧ Aside0 (Below wr.heap.size wr wu)) (fun _ v52 _ => x.length - (intOf v52).toNat)
                    case atStart => exact ⟨0, 1, rfl, rfl, ⟨Nat.zero_le _, Int.le_refl _, Int.le_refl _, by rw [List.drop_zero]; rfl⟩, HB3⟩
                    case round =>
                      obtain ⟨d, pt, rfl, rfl, HD, HBu⟩ := hrel
                      by_cases hd : d < x.length
                      · obtain ⟨ad8, rfl, y0, y1⟩ := at_T27 (Kd.C_below HCx.out HBu.out) (d : Int) (by omega) (by omega)
                        rw [rdT27_nat, Int.toNat_natCast] at y0 y1
                        have hs := boxB_at HX.out.1 hd
                        have HDr := Aside0.mk (drop_stepG z27 x d hd)
                        obtain ⟨sp, hsp⟩ : ∃ sp, x.getD d z27 = sp := ⟨_, rfl⟩
                        rw [hsp] at y0 y1 hs
                        have HSp := Aside0.mk hsp
                        have hdd : decide ((d : Int) < (x.length : Int)) = true := decide_eq_true (by omega)
                        have wd : IntKind.i64.wrap ((d : Int) + 1) = ((d + 1 : Nat) : Int) := by have := h3.out; rw [wrI (by omega) (by omega)]; rfl
                        have w1 : IntKind.i64.wrap (sp.f1 - sp.f0) = sp.f1 - sp.f0 := wrI (by omega) (by omega)
                        have w2 : IntKind.i64.wrap (sp.f1 - sp.f0 + 1) = sp.f1 - sp.f0 + 1 := wrI (by omega) (by omega)
                        have HMul := Aside0.mk (mul_bnd (d := d) (by have := h3.out; omega) HD.out.2.1 HD.out.2.2.1 (show 1 ≤ sp.f1 - sp.f0 + 1 by omega) (show sp.f1 - sp.f0 + 1 ≤ 2000001 by omega))
                        have w3 : IntKind.i64.wrap (pt * (sp.f1 - sp.f0 + 1)) = pt * (sp.f1 - sp.f0 + 1) := wrI (Int.le_trans (by decide) HMul.out.1) (Int.le_trans HMul.out.2.2 (by decide))
                        clear hsp hs
                        gi_wp2
                        refine ⟨⟨d + 1, pt * (sp.f1 - sp.f0 + 1), rfl, by rw [Int.natCast_succ], ⟨by omega, HMul.out.1, HMul.out.2.1, ?_⟩, ⟨HBu.out.trans ((below_alloc (Below.refl _ _) _).mono HBu.out.size)⟩⟩, ?_⟩
                        · have hc := HD.out.2.2.2
                          rw [HDr.out, List.foldl_cons, HSp.out] at hc
                          exact hc
                        · show x.length - ((d : Int) + 1).toNat < x.length - (d : Int).toNat
                          omega
                      · obtain rfl : d = x.length := by have := HD.out.1; omega
                        have hdd : decide ((x.length : Int) < (x.length : Int)) = false := decide_eq_false (by omega)
                        have hpt : pt = sizeT x := by
                          have hc := HD.out.2.2.2
                          rw [List.drop_of_length_le (Nat.le_refl _)] at hc
                          exact hc
                        have hbd : pt ≤ 8000012000006000001 := Int.le_trans HD.out.2.2.1 (bnd_le _)
                        have W5 : Aside0 (wrap64 (s2 + sizeT x) = s2 + sizeT x) := ⟨by rw [← hpt]; exact wr64 (by have := HM.out; have := HD.out; omega) (by have := HM.out; omega)⟩
                        have W6 : Aside0 (wrap64 ((m : Int) + 1) = (m : Int) + 1) := ⟨by have := HLL.out; exact wr64 (by omega) (by omega)⟩
                        have HPt : Aside0 (1 ≤ pt ∧ pt ≤ 8000012000006000001) := ⟨HD.out.2.1, hbd⟩
                        subst hpt
                        clear hbd
                        gi_wp2
                        rw [W5.out, W6.out]
                        refine ⟨⟨m + 1, min (s2 + sizeT x) 1000000000000000000, by rw [min_sat], by rw [Int.natCast_succ], ⟨by omega, by have := HM.out; have := HPt.out; omega, by omega, ?_⟩, ⟨HBt.out.trans (HBu.out.mono HBt.out.size)⟩⟩, ?_⟩
                        · have hc := HM.out.2.2.2
                          rw [HX.out.2, List.map_cons] at hc
                          exact hc
                        · show L.length - ((m : Int) + 1).toNat < L.length - (m : Int).toNat
                          omega
                  · obtain rfl : m = L.length := by have := HM.out.1; omega
                    have hdm : decide ((L.length : Int) < (L.length : Int)) = false := decide_eq_false (by omega)
                    have wi : IntKind.i64.wrap ((j : Int) + 1) = ((j + 1 : Nat) : Int) := by rw [wrI (by omega) (by omega)]; rfl
                    gi_wp2
                    refine ⟨⟨j + 1, s2, rfl, by rw [Int.natCast_succ], ⟨by omega, HM.out.2.1, HM.out.2.2.1, ?_⟩, ⟨HBs.out.trans (HBt.out.mono HBs.out.size)⟩⟩, ?_⟩
                    · have hc := HI.out.2.2.2
                      have hsat := HM.out.2.2.2
                      rw [HA.out.2.2.2.1] at hc
                      simp only [countT] at hc
                      rw [HLe.out, ← hsat, List.drop_of_length_le (Nat.le_refl _)] at hc
                      rw [HA.out.2.2.2.2]
                      exact hc
                    · show l0.length - ((j : Int) + 1).toNat < l0.length - (j : Int).toNat
                      omega
          · obtain rfl : i = l0.length := by have := HI.out.1; omega
            have hdi : decide ((l0.length : Int) < (l0.length : Int)) = false := decide_eq_false (by omega)
            have HH := HI.out.2.2.2
            rw [List.drop_of_length_le (Nat.le_refl _)] at HH
            have HG := H.out
            rw [← HH] at HG
            cases HG
            gi_wp2
            refine bodyPost_ret (results_list (rs := [.tmp 2, .tmp 3]) rfl (by simp) (.tmp (.tmp .nil))) rfl ?_
            exact ⟨rfl, HB.out⟩
      · have hne : (listE l0 != 0) = true := by simpa using he
        rw [if_neg he] at H
        cases H.out
        clear he
        gi_wp2_with (refine ⟨trivial, ?_⟩; gi_at_call 124; refine (callsIn_wide.2 (spans_check.calls 1000 A0 c0 l0 _ _ (by repeat (first | exact HR0.out | (with_reducible refine Kd.C_alloc ?_ _) | (with_reducible refine Kd.C_drewN ?_ _) | (with_reducible refine Kd.C_drew ?_))) hc0 ck.out)).mono ?_; rintro e w1 ⟨rfl, hb1⟩)
        refine bodyPost_ret (results_list (rs := [.tmp 2, .tmp 3]) rfl (by simp) (.tmp (.tmp .nil))) rfl ?_
        exact ⟨rfl, hb1⟩
end Go.Proofs.Yteodlmgmmpkpoaa.PS
end
section
namespace Go.Proofs.Yteodlmgmmpkpoaa.PS
open Go.RowKit Go.Proofs.YteodlmgmmpkpoaaW.PrintWords Go.Proofs.YteodlmgmmpkpoaaW.PrintLast Go.Proofs.YteodlmgmmpkpoaaW.PrintMore
attribute [local go_sem] max2_int min2_int max_two min_two max_three min_three max_four min_four   -- for this text's walks alone
set_option linter.unusedVariables false
set_option linter.unusedSimpArgs false
def swashplateref01_size.l0 : Nat → List (S27) → Int → Int → Option (Int)
 | 0, _, _, _ => none
 | k + 1, x0, x3, x4 => if x4 < (x0.length : Int) then (if 0 ≤ x4 then (swashplateref01_size.l0 k x0 (wrap64 (x3 * (wrap64 ((wrap64 (((rd_T27 x0 x4).f1) - ((rd_T27 x0 x4).f0))) + 1)))) (wrap64 (x4 + 1))) else (none)) else (some x3)
def swashplateref01_size.f (k : Nat) (l0 : List (S27)) : Option (Int) := swashplateref01_size.l0 k l0 1 0
set_option maxHeartbeats 8000000 in
set_option maxRecDepth 100000 in
theorem swashplateref01_size.calls (k : Nat) (A0 : Option Addr) (c0 : Nat) (l0 : List (S27)) (r : Int) (w : World) (hr0 : Kd.C k27 w A0 l0.length l0) (hc0 : l0.length ≤ c0) (h : swashplateref01_size.f k l0 = some r) :
  Calls Try.prog 127 #[.slice A0 l0.length c0] w fun e w' => e = .returned (.int .i64 r) ∧ Drawn0 w w' := by
 have HR0 := Aside0.mk hr0
 have HC0 := Aside0.mk hc0
 clear hr0 hc0
 have H : (swashplateref01_size.l0 k l0 1 0) = some r := h
 clear h
 have H' := Aside0.mk H
 clear H
 go_enter Try.func127, Try.ntmps127
 go_wp2
 go_loopg [3, 4] k (fun kq v3 v4 w' => ∃ (x3_1 : Int) (x4_1 : Int), v3 = .int .i64 x3_1 ∧ v4 = .int .i64 x4_1 ∧ Aside0 (swashplateref01_size.l0 kq l0 x3_1 x4_1 = some r) ∧ Aside0 (kq ≤ k) ∧ Drawn0 w w')
 case atStart => exact ⟨(1), (0), (by first | rfl | (simp; done) | (simp [*]; done)), (by first | rfl | (simp; done) | (simp [*]; done)), H', ⟨Nat.le_refl _⟩, by repeat (first | exact Drawn0.refl _ | apply Drawn0.step)⟩
 case round =>
  clear H'
  try clear c1
  obtain ⟨x3_1, x4_1, rfl, rfl, HA, HK1, ⟨m1, rfl⟩⟩ := hrel
  cases gk with
  | zero => exact absurd HA.out (by simp [swashplateref01_size.l0])
  | succ k1 =>
   have H := HA.out
   clear HA
   simp only [swashplateref01_size.l0] at H
   by_cases c2 : x4_1 < (l0.length : Int)
   ·
    rw [if_pos c2] at H
    have c2b0 : decide (x4_1 < (l0.length : Int)) = true := decide_eq_true c2
    clear c2
    by_cases c3 : 0 ≤ x4_1
    ·
     rw [if_pos c3] at H
     have c3b0 : decide (0 ≤ x4_1) = true := decide_eq_true c3
     clear c3
     have H' := Aside0.mk H
     clear H
     have p723 : 0 ≤ (x4_1 : Int) := of_decide_eq_true (by first | (with_reducible assumption) | assumption)
     have q723 : x4_1 < (l0.length : Int) := of_decide_eq_true (by first | (with_reducible assumption) | assumption)
     obtain ⟨ad723, e723, hx723_0, hx723_1⟩ := at_T27 HR0.out x4_1 p723 q723
     cases e723
     replace p723 := eq_true p723
     replace q723 := eq_true q723
     have p724 : 0 ≤ (x4_1 : Int) := of_decide_eq_true (by first | (with_reducible assumption) | assumption)
     have q724 : x4_1 < (l0.length : Int) := of_decide_eq_true (by first | (with_reducible assumption) | assumption)
     obtain ⟨ad724, e724, hx724_0, hx724_1⟩ := at_T27 HR0.out x4_1 p724 q724
     obtain rfl : ad723 = ad724 := (by injection e724)
     replace p724 := eq_true p724
     replace q724 := eq_true q724
     go_wp2
     repeat (go_quiet (fail); try go_wp2)
     go_roundg k1
     case measure => have := HK1.out; omega
     case rel => exact ⟨(wrap64 (x3_1 * (wrap64 ((wrap64 (((rd_T27 l0 x4_1).f1) - ((rd_T27 l0 x4_1).f0))) + 1)))), (wrap64 (x4_1 + 1)), (by first | rfl | (simp; done) | (simp [*]; done)), (by first | rfl | (simp; done) | (simp [*]; done)), H', ⟨by have := HK1.out; omega⟩, by repeat (first | exact Drawn0.refl _ | apply Drawn0.step)⟩
    ·
     rw [if_neg c3] at H
     exact absurd H (by simp)
   ·
    rw [if_neg c2] at H
    have c2b0 : decide (x4_1 < (l0.length : Int)) = false := decide_eq_false c2
    clear c2
    obtain rfl := Option.some.inj H
    go_wp2
    go_ret
    exact ⟨by first | rfl | (simp; done) | (simp [*]; done), by repeat (first | exact Drawn0.refl _ | apply Drawn0.step)⟩
end Go.Proofs.Yteodlmgmmpkpoaa.PS
end
section
namespace Go.Proofs.Yteodlmgmmpkpoaa.PS
open Go.RowKit Go.Proofs.YteodlmgmmpkpoaaW.PrintWords Go.Proofs.YteodlmgmmpkpoaaW.PrintLast Go.Proofs.YteodlmgmmpkpoaaW.PrintMore
attribute [local go_sem] max2_int min2_int max_two min_two max_three min_three max_four min_four   -- for this text's walks alone
set_option linter.unusedVariables false
set_option linter.unusedSimpArgs false
mutual
def swashplateref01_Count.l0 : Nat → List (List (S27)) → Int → Int → Option (Int × Int)
 | 0, _, _, _ => none
 | k + 1, x0, x5, x6 => if x6 < (x0.length : Int) then (if 0 ≤ x6 then (if x6 ≤ (x0.length : Int) then ((swashplateref01_leftP.f k (rd_L2 x0 x6) (x0.take (x6 : Int).toNat)).bind fun t682 => (swashplateref01_Count.l1 k x0 x5 x6 t682 0)) else (none)) else (none)) else (some (mn x5 1000000000000000000, 0))
def swashplateref01_Count.l1 : Nat → List (List (S27)) → Int → Int → List (List (S27)) → Int → Option (Int × Int)
 | 0, _, _, _, _, _ => none
 | k + 1, x0, x5, x6, x7, x8 => if x8 < (x7.length : Int) then (if 0 ≤ x8 then ((swashplateref01_size.f k (rd_L2 x7 x8)).bind fun t686 => (swashplateref01_Count.l1 k x0 (wrap64 (x5 + t686)) x6 x7 (wrap64 (x8 + 1)))) else (none)) else (swashplateref01_Count.l0 k x0 x5 (wrap64 (x6 + 1)))
end
def swashplateref01_Count.f (k : Nat) (l0 : List (List (S27))) : Option (Int × Int) := (swashplateref01_checkList.f k l0 (-1)).bind fun t676 => (if t676 = 0 then (swashplateref01_Count.l0 k l0 0 0) else (some (0, t676)))
def swashplateref01_Count.T8 : Bool × List (List Nat × List Nat) := (true, [([], []), ([], []), ([0, 1], [0, 1]), ([2], [2]), ([], []), ([], []), ([4, 5], [4, 5]), ([3, 6], [3, 6]), ([7, 7, 0, 1, 2, 3, 4, 5, 6, 7], [7])])
def swashplateref01_Count.B8 : List Nat := [0, 0, 3, 7, 0, 0, 48, 127, 255]
theorem swashplateref01_Count.tab8 : rtab .any (opsOf Try.f67 8) = swashplateref01_Count.T8 := by kernel_rfl
theorem swashplateref01_Count.bits8 : waitsOk swashplateref01_Count.T8.2 swashplateref01_Count.B8 = true := by kernel_rfl
set_option maxHeartbeats 8000000 in
set_option maxRecDepth 100000 in
theorem swashplateref01_Count.calls (k : Nat) (A0 : Option Addr) (c0 : Nat) (l0 : List (List (S27))) (r1 : Int) (r2 : Int) (w : World) (hr0 : Kd.C (Kd.slice 27 k27) w A0 l0.length l0) (hc0 : l0.length ≤ c0) (h : swashplateref01_Count.f k l0 = some (r1, r2)) :
  Calls Try.prog 67 #[.slice A0 l0.length c0] w fun e w' => e = .returned (.tuple #[.int .i64 r1, .int .i64 r2]) ∧ Below w.heap.size w w' := by
 have HR0 := Aside0.mk hr0
 have HC0 := Aside0.mk hc0
 clear hr0 hc0
 have HB := Aside0.mk (Below.refl w.heap.size w)
 have H : ((swashplateref01_checkList.f k l0 (-1)).bind fun t676 => (if t676 = 0 then (swashplateref01_Count.l0 k l0 0 0) else (some (0, t676)))) = some (r1, r2) := h
 clear h
 replace H := Option.bind_eq_some_iff.mp H
 obtain ⟨t676, A20, H⟩ := H
 replace H : (if t676 = 0 then (swashplateref01_Count.l0 k l0 0 0) else (some (0, t676))) = some (r1, r2) := H
 have A2 := Aside0.mk A20
 clear A20
 by_cases c3 : t676 = 0
 ·
  rw [if_pos c3] at H
  have c3b0 : (t676 == 0) = true := beq_iff_eq.mpr c3
  have c3b1 : (t676 != 0) = false := bne_eq_false_iff_eq.mpr c3
  clear c3
  have H' := Aside0.mk H
  clear H
  go_enter Try.func67, Try.ntmps67
  go_wp2_with (first | ((with_reducible refine gate_callee (f := 125) rfl ?_); refine goesL_ (some 10) rfl rfl Try.func125 (by kernel_rfl) rfl #[.slice A0 l0.length c0, .int .i64 (-1)] rfl (by (try simp only [List.map_toArray, List.map_cons, List.map_nil]); first | done | rfl | (simp only [List.length_drop, List.length_take]; rfl)) ?_; (with_reducible refine (swashplateref01_checkList.calls k _ _ l0 (-1) t676 _ ?side1 ?side2 A2.out).mono ?_); (case side1 => exact cr_ HR0.out); (case side2 => exact HC0.out); rintro e w4 ⟨rfl, hb⟩; refine ⟨_, rfl, ?_⟩; have n0_ := Aside0.mk (below_step (bl_ HB.out) hb); clear HB; have HB := n0_; clear n0_; (try clear hb); (try clear hb2); (try clear hk); (try clear hi)))
  go_loopg [5, 6] k (fun kq v5 v6 w' => ∃ (x5_1 : Int) (x6_1 : Int), v5 = .int .i64 x5_1 ∧ v6 = .int .i64 x6_1 ∧ Aside0 (swashplateref01_Count.l0 kq l0 x5_1 x6_1 = some (r1, r2)) ∧ Aside0 (kq ≤ k) ∧ Aside0 (Below w.heap.size w w'))
  case atStart => exact ⟨(0), (0), (by first | rfl | (simp; done) | (simp [*]; done)), (by first | rfl | (simp; done) | (simp [*]; done)), H', ⟨Nat.le_refl _⟩, ⟨bl_ HB.out⟩⟩
  case round =>
   clear H'
   try clear c1
   try clear p2
   try clear c3
   try clear c3b0
   try clear c3b1
   obtain ⟨x5_1, x6_1, rfl, rfl, HA, HK1, HB⟩ := hrel
   cases gk with
   | zero => exact absurd HA.out (by simp [swashplateref01_Count.l0])
   | succ k1 =>
    have H := HA.out
    clear HA
    simp only [swashplateref01_Count.l0] at H
    by_cases c5 : x6_1 < (l0.length : Int)
    ·
     rw [if_pos c5] at H
     have c5b0 : decide (x6_1 < (l0.length : Int)) = true := decide_eq_true c5
     clear c5
     by_cases c6 : 0 ≤ x6_1
     ·
      rw [if_pos c6] at H
      have c6b0 : decide (0 ≤ x6_1) = true := decide_eq_true c6
      clear c6
      have c7b0 := eq_true (of_decide_eq_true (by first | (with_reducible assumption) | assumption) : 0 ≤ x6_1)
      by_cases c8 : x6_1 ≤ (l0.length : Int)
      ·
       rw [if_pos c8] at H
       have c8b0 := eq_true c8
       have c8b1 : decide (x6_1 ≤ (l0.length : Int)) = true := decide_eq_true c8
       clear c8
       obtain ⟨y678, hy678⟩ : ∃ y_ : List (List (S27)), y_ = (l0.take (x6_1 : Int).toNat) := ⟨_, rfl⟩
       replace H : ((swashplateref01_leftP.f k1 (rd_L2 l0 x6_1) y678).bind fun t682 => (swashplateref01_Count.l1 k1 l0 x5_1 x6_1 t682 0)) = some (r1, r2) := by first | (rw [hy678]; with_reducible exact H) | (have H2_ := (Option.bind_some _ _).symm.trans H; rw [hy678]; with_reducible exact H2_) | (have H2_ := (Option.bind_some _ _).symm.trans H; with_reducible exact H2_) | with_reducible exact H | (rw [hy678]; exact H) | exact H
       have Ny678 := Aside0.mk hy678
       clear hy678
       replace H := Option.bind_eq_some_iff.mp H
       obtain ⟨t682, A90, H⟩ := H
       replace H : (swashplateref01_Count.l1 k1 l0 x5_1 x6_1 t682 0) = some (r1, r2) := H
       have A9 := Aside0.mk A90
       clear A90
       have H' := Aside0.mk H
       clear H
       try go_wp2
       have n0_ := Aside0.mk (below_drew1 HB.out)
       clear HB
       have HB := n0_
       clear n0_
       have p677 : 0 ≤ (x6_1 : Int) := of_decide_eq_true (by first | (with_reducible assumption) | assumption)
       have q677 : x6_1 < (l0.length : Int) := of_decide_eq_true (by first | (with_reducible assumption) | assumption)
       obtain ⟨ad677, A677_0, c677_0, e677, hx677_0, hl677_0, hi677_0⟩ := at_L2 HR0.out x6_1 p677 q677
       have hw677_0 := hx677_0
       cases e677
       replace hx677_0 := (HB.out.cell (World.block_lt_of_cell? w _ hx677_0)).trans hx677_0
       have HR677_0 := Aside0.mk hi677_0
       have HC677_0 := Aside0.mk hl677_0
       clear hi677_0 hl677_0
       replace p677 := eq_true p677
       replace q677 := eq_true q677
       have q11 : (x6_1 : Int) ≤ ((l0.length : Int) : Int) := of_decide_eq_true (by first | (with_reducible assumption) | assumption)
       obtain ⟨i011, hi011, _, hsz11, _⟩ := info_parts info38
       have hroom11 : l0.length ≤ c0 := HC0.out
       have hC11 : Kd.C (Kd.slice 27 k27) _ (some ad677) l0.length l0 := HR0.out
       have hcut11 := cut_to (P := Try.prog) 95 38 .i64 Try.underlying95 hi011 (some ad677) l0.length c0 x6_1 (of_decide_eq_true (by first | (with_reducible assumption) | assumption)) q11 hroom11
       have hr11 := Kd.C_take (m := (x6_1 : Int).toNat) hC11 (by omega)
       have hy11 : y678.length = (x6_1 : Int).toNat := (by rw [Ny678.out, List.length_take]; omega)
       rw [← Ny678.out] at hr11
       rw [← hy11] at hcut11
       have HR681 := Aside0.mk hr11
       have HC681 := Aside0.mk (show y678.length ≤ c0 from by omega)
       clear hr11 hC11 hroom11 hi011 hsz11
       have KY11 := Aside0.mk hy11
       clear hy11
       replace q11 := eq_true q11
       refine start_ (n := 9) (S := fun w' => w'.cell? (ad677.add (x6_1).toNat) = some (.slice A677_0 (rd_L2 l0 x6_1).length c677_0)) (ds := []) #[false, false, false, false, false, false, false, false, false] (by kernel_rfl) rfl rfl (((HB.out.cell (World.block_lt_of_cell? w _ hw677_0)).trans hw677_0)) (fun hHeld => ?_); refine with_tabW swashplateref01_Count.tab8 swashplateref01_Count.bits8 (fun HT_ HW_ => ?_)
       generalize wr.drew = w10 at HB HR677_0 HR681 hx677_0 hHeld ⊢
       refine pure_ (i := 0) (N := some 20) (v := ?_) (a' := ?_) #[true, false, false, false, false, false, false, false, false] rfl rfl (any_of HT_.out (by kernel_rfl)) (fun _ _ _ h => h) (Or.inl ⟨by rfl, ?_⟩) ?_ ?_
       rotate_left
       ·
        intro w'
        go_simp
        with_reducible rfl
       rotate_left
       ·
        simp only [Act.put, List.setIfInBounds_toArray, List.set_cons_zero, List.set_cons_succ, i64_w, i32_w]
        rfl
       refine pure_ (i := 1) (N := some 21) (v := ?_) (a' := ?_) #[true, true, false, false, false, false, false, false, false] rfl rfl (any_of HT_.out (by kernel_rfl)) (fun _ _ _ h => h) (Or.inl ⟨by rfl, ?_⟩) ?_ ?_
       rotate_left
       ·
        intro w'
        go_simp
        with_reducible rfl
       rotate_left
       ·
        simp only [Act.put, List.setIfInBounds_toArray, List.set_cons_zero, List.set_cons_succ, i64_w, i32_w]
        rfl
       refine pure_ (i := 2) (N := some 22) (v := ?_) (a' := ?_) #[true, true, true, false, false, false, false, false, false] rfl rfl (any_of HT_.out (by kernel_rfl)) (fun _ _ _ h => h) (Or.inl ⟨by rfl, ?_⟩) ?_ ?_
       rotate_left
       ·
        intro w'
        go_simp
        with_reducible rfl
       rotate_left
       ·
        simp only [Act.put, List.setIfInBounds_toArray, List.set_cons_zero, List.set_cons_succ, i64_w, i32_w]
        rfl
       refine pure_ (i := 4) (N := some 24) (v := ?_) (a' := ?_) #[true, true, true, false, true, false, false, false, false] rfl rfl (any_of HT_.out (by kernel_rfl)) (fun _ _ _ h => h) (Or.inl ⟨by rfl, ?_⟩) ?_ ?_
       rotate_left
       ·
        intro w'
        go_simp
        with_reducible rfl
       rotate_left
       ·
        simp only [Act.put, List.setIfInBounds_toArray, List.set_cons_zero, List.set_cons_succ, i64_w, i32_w]
        rfl
       refine pure_ (i := 5) (N := some 25) (v := ?_) (a' := ?_) #[true, true, true, false, true, true, false, false, false] rfl rfl (any_of HT_.out (by kernel_rfl)) (fun _ _ _ h => h) (Or.inl ⟨by rfl, ?_⟩) ?_ ?_
       rotate_left
       ·
        intro w'
        go_simp
        with_reducible rfl
       rotate_left
       ·
        simp only [Act.put, List.setIfInBounds_toArray, List.set_cons_zero, List.set_cons_succ, i64_w, i32_w]
        rfl
       refine pure_ (i := 6) (N := some 26) (v := ?_) (a' := ?_) #[true, true, true, false, true, true, true, false, false] rfl rfl (any_of HT_.out (by kernel_rfl)) (fun _ _ _ h => h) (Or.inl ⟨by rfl, ?_⟩) ?_ ?_
       rotate_left
       ·
        intro w'
        go_simp
        with_reducible rfl
       rotate_left
       ·
        simp only [Act.put, List.setIfInBounds_toArray, List.set_cons_zero, List.set_cons_succ, i64_w, i32_w]
        rfl
       refine take_ (i := 3) (N := some 23) (v := ?_) (a' := ?_) #[true, true, true, true, true, true, true, false, false] rfl rfl (take_ofW HT_.out HW_.out (by kernel_rfl)) (fun _ _ _ h => h) (Or.inl ⟨by rfl, ?_⟩) hHeld ?_ ?_
       rotate_left
       ·
        intro w' s0
        go_simp
        with_reducible rfl
       rotate_left
       ·
        simp only [Act.put, List.setIfInBounds_toArray, List.set_cons_zero, List.set_cons_succ, i64_w, i32_w]
        rfl
       refine one_ (i := 7) (N := some 27) #[true, true, true, true, true, true, true, true, false] rfl rfl (one_of HT_.out (by kernel_rfl)) (by decide) (fun K hK => ?_)
       refine goes_ Try.func126 (by kernel_rfl) rfl #[.slice A677_0 (rd_L2 l0 x6_1).length c677_0, .slice (some ad677) y678.length c0] (by rfl) rfl rfl (by (try simp only [List.map_toArray, List.map_cons, List.map_nil]); first | done | rfl | (simp only [List.length_drop, List.length_take]; rfl)) ?_
       with_reducible refine (swashplateref01_leftP.calls k1 (fun k_ => k_ < w.heap.size) _ _ (rd_L2 l0 x6_1) _ _ y678 t682 _ ?side1 ?side2 ?side3 A9.out).mono ?_
       (case side1 => exact Kd.V_mk HC677_0.out (Kd.F_below (Kd.C_F k27_heap HR677_0.out) (bl_ HB.out)))
       (case side2 => exact cr_ (Kd.C_below HR681.out HB.out))
       (case side3 => exact HC681.out)
       rintro e w12 ⟨v683, rfl, ho0, hb⟩
       refine ⟨_, rfl, ?_⟩
       have n0_ := Aside0.mk (Kd.N_lower (Kd.N_mono (ok' := fun k_ => True) ho0 (fun k_ hk_ => trivial)) (below_size (bl_ HB.out)))
       have n1_ := Aside0.mk (below_step (bl_ HB.out) hb)
       clear HB
       have HO684 := n0_
       have HB := n1_
       clear n0_ n1_
       (try clear hb)
       (try clear hb2)
       (try clear hk)
       (try clear hi)
       (try clear ho0)
       refine hK.out _ _ (((HB.out.cell (World.block_lt_of_cell? w _ hw677_0)).trans hw677_0)) (fun hHeld => ?_)
       clear hK K
       refine norm_ (a' := ?_) ?_ ?_
       rotate_left
       ·
        show Act.put _ (some 27) _ = _
        simp only [Act.put, List.setIfInBounds_toArray, List.set_cons_zero, List.set_cons_succ, i64_w, i32_w]
        rfl
       refine pure_ (i := 8) (N := some 7) (v := ?_) (a' := ?_) #[true, true, true, true, true, true, true, true, true] rfl rfl (any_of HT_.out (by kernel_rfl)) (fun _ _ _ h => h) (Or.inl ⟨by rfl, ?_⟩) ?_ ?_
       rotate_left
       ·
        intro w'
        go_simp
        with_reducible rfl
       rotate_left
       ·
        simp only [Act.put, List.setIfInBounds_toArray, List.set_cons_zero, List.set_cons_succ, i64_w, i32_w]
        rfl
       refine done_ (done_of HT_.out (by kernel_rfl)) ?_
       try go_wp2
       go_loopg [5, 8] k1 (fun kq v5 v8 w' => ∃ (x5_2 : Int) (x8_2 : Int), v5 = .int .i64 x5_2 ∧ v8 = .int .i64 x8_2 ∧ Aside0 (swashplateref01_Count.l1 kq l0 x5_2 x6_1 t682 x8_2 = some (r1, r2)) ∧ Aside0 (kq ≤ k1) ∧ Aside0 (Kd.N (Kd.slice 27 k27) 38 w' w.heap.size (fun _ => True) v683 t682) ∧ Aside0 (Below w.heap.size w w'))
       case atStart => exact ⟨(x5_1), (0), (by first | rfl | (simp; done) | (simp [*]; done)), (by first | rfl | (simp; done) | (simp [*]; done)), H', ⟨Nat.le_refl _⟩, ⟨by (with_reducible repeat (first | apply Kd.N_alloc | apply Kd.N_drewN | apply Kd.N_drew)); exact HO684.out⟩, ⟨bl_ HB.out⟩⟩
       case round =>
        clear H'
        try clear c1
        try clear q1
        try clear p2
        try clear c3
        try clear c3b0
        try clear c3b1
        try clear c5
        try clear c5b0
        try clear c6
        try clear c6b0
        try clear p6
        try clear q6
        try clear hx6
        try clear c7
        try clear c7b0
        try clear c8
        try clear c8b0
        try clear c8b1
        try clear q11
        try clear c12
        try clear hx677_0
        try clear p2
        try clear p677
        try clear q11
        try clear q677
        obtain ⟨x5_2, x8_2, rfl, rfl, HA, HK2, HO_7, HB⟩ := hrel
        cases gk with
        | zero => exact absurd HA.out (by simp [swashplateref01_Count.l1])
        | succ k2 =>
         have H := HA.out
         clear HA
         simp only [swashplateref01_Count.l1] at H
         by_cases c13 : x8_2 < (t682.length : Int)
         ·
          rw [if_pos c13] at H
          have c13b0 : decide (x8_2 < (t682.length : Int)) = true := decide_eq_true c13
          clear c13
          by_cases c14 : 0 ≤ x8_2
          ·
           rw [if_pos c14] at H
           have c14b0 : decide (0 ≤ x8_2) = true := decide_eq_true c14
           clear c14
           replace H := Option.bind_eq_some_iff.mp H
           obtain ⟨t686, A150, H⟩ := H
           replace H : (swashplateref01_Count.l1 k2 l0 (wrap64 (x5_2 + t686)) x6_1 t682 (wrap64 (x8_2 + 1))) = some (r1, r2) := H
           have A15 := Aside0.mk A150
           clear A150
           have H' := Aside0.mk H
           clear H
           obtain ⟨Ao16, co16, eo16⟩ := Kd.N_slice HO_7.out
           subst eo16
           have p685 : 0 ≤ (x8_2 : Int) := of_decide_eq_true (by first | (with_reducible assumption) | assumption)
           have q685 : x8_2 < (t682.length : Int) := of_decide_eq_true (by first | (with_reducible assumption) | assumption)
           obtain ⟨ad685, A685_0, c685_0, e685, hx685_0, hl685_0, hi685_0⟩ := at_L2 (Kd.N_reads' HO_7.out).2.2 x8_2 p685 q685
           cases e685
           obtain ⟨ce685, hce685, hMe685, hcc685⟩ := Kd.N_get HO_7.out [] x8_2 p685 (by first | exact q685 | exact of_decide_eq_true (by first | (with_reducible assumption) | assumption) | (have e_ := (Kd.N_reads' HO_7.out).1; omega))
           obtain ⟨ua685_0, uc685_0, rfl, ul685_0, ge685_0⟩ := Kd.FK_slice_open hMe685
           have hv685_0 := hcc685 0 _ rfl
           rw [Nat.add_zero, show ((Kd.slice 27 k27)).sz = 1 from rfl, Nat.mul_one] at hv685_0
           replace hv685_0 := Option.some.inj (hv685_0.symm.trans hx685_0)
           injection hv685_0 with hva_ hvn_ hvc_
           rw [hva_] at ge685_0
           rw [hvc_] at ul685_0
           have HL685_0 := Aside0.mk (show Kd.V k27 27 _ w.heap.size _ _ (rd_L2 t682 x8_2) from Kd.V_mk ul685_0 ge685_0)
           clear hva_ hvn_ hvc_ ge685_0 ul685_0 hcc685 hce685
           have HR685_0 := Aside0.mk hi685_0
           have HC685_0 := Aside0.mk hl685_0
           clear hi685_0 hl685_0
           replace p685 := eq_true p685
           replace q685 := eq_true q685
           go_wp2_with (first | ((with_reducible refine gate_callee (f := 127) rfl ?_); refine goesL_ (some 39) rfl rfl Try.func127 (by kernel_rfl) rfl #[.slice A685_0 (rd_L2 t682 x8_2).length c685_0] rfl (by (try simp only [List.map_toArray, List.map_cons, List.map_nil]); first | done | rfl | (simp only [List.length_drop, List.length_take]; rfl)) ?_; (with_reducible refine (swashplateref01_size.calls k2 _ _ (rd_L2 t682 x8_2) t686 _ ?side1 ?side2 A15.out).mono ?_); (case side1 => exact cr_ (by repeat (first | (with_reducible exact HR685_0.out) | (with_reducible refine Kd.C_alloc ?_ _) | (with_reducible refine Kd.C_drewN ?_ _) | (with_reducible refine Kd.C_drew ?_) | exact HR685_0.out))); (case side2 => exact HC685_0.out); rintro e w' ⟨rfl, ⟨nd, rfl⟩⟩; refine ⟨_, rfl, ?_⟩))
           go_roundg k2
           case measure => have := HK1.out; have := HK2.out; omega
           case rel => exact ⟨(wrap64 (x5_2 + t686)), (wrap64 (x8_2 + 1)), (by first | rfl | (simp; done) | (simp [*]; done)), (by first | rfl | (simp; done) | (simp [*]; done)), H', ⟨by have := HK1.out; have := HK2.out; omega⟩, ⟨by (with_reducible repeat (first | apply Kd.N_alloc | apply Kd.N_drewN | apply Kd.N_drew)); exact HO_7.out⟩, ⟨bl_ HB.out⟩⟩
          ·
           rw [if_neg c14] at H
           exact absurd H (by simp)
         ·
          rw [if_neg c13] at H
          have c13b0 : decide (x8_2 < (t682.length : Int)) = false := decide_eq_false c13
          clear c13
          have H' := Aside0.mk H
          clear H
          obtain ⟨Ao17, co17, eo17⟩ := Kd.N_slice HO_7.out
          subst eo17
          go_wp2
          go_roundg k2
          case measure => have := HK1.out; have := HK2.out; omega
          case rel => exact ⟨(x5_2), (wrap64 (x6_1 + 1)), (by first | rfl | (simp; done) | (simp [*]; done)), (by first | rfl | (simp; done) | (simp [*]; done)), H', ⟨by have := HK1.out; have := HK2.out; omega⟩, ⟨bl_ HB.out⟩⟩
      ·
       rw [if_neg c8] at H
       exact absurd H (by simp)
     ·
      rw [if_neg c6] at H
      exact absurd H (by simp)
    ·
     rw [if_neg c5] at H
     have c5b0 : decide (x6_1 < (l0.length : Int)) = false := decide_eq_false c5
     clear c5
     obtain ⟨ji18, hji18⟩ : ∃ j_ : Int, (mn x5_1 1000000000000000000) = j_ := ⟨_, rfl⟩
     replace H : (some (ji18, 0)) = some (r1, r2) := by first | (rw [hji18] at H; exact H) | (simp only [hji18] at H ⊢; exact H)
     have hji18_ : (if 1000000000000000000 < x5_1 then 1000000000000000000 else x5_1) = ji18 := hji18
     simp only [Option.some.injEq, Prod.mk.injEq] at H
     obtain ⟨rfl, rfl⟩ := H
     go_wp2
     go_ret2
     exact ⟨by first | rfl | (simp [errW_none, errW_some] <;> rfl) | (simp only [← hji18]; first | rfl | (simp [errW_none, errW_some] <;> rfl)) | (simp [*, errW_none, errW_some] <;> rfl), bl_ HB.out⟩
 ·
  rw [if_neg c3] at H
  have c3b0 : (t676 == 0) = false := beq_eq_false_iff_ne.mpr c3
  have c3b1 : (t676 != 0) = true := bne_iff_ne.mpr c3
  simp only [Option.some.injEq, Prod.mk.injEq] at H
  obtain ⟨rfl, rfl⟩ := H
  go_enter Try.func67, Try.ntmps67
  go_wp2_with (first | ((with_reducible refine gate_callee (f := 125) rfl ?_); refine goesL_ (some 10) rfl rfl Try.func125 (by kernel_rfl) rfl #[.slice A0 l0.length c0, .int .i64 (-1)] rfl (by (try simp only [List.map_toArray, List.map_cons, List.map_nil]); first | done | rfl | (simp only [List.length_drop, List.length_take]; rfl)) ?_; (with_reducible refine (swashplateref01_checkList.calls k _ _ l0 (-1) t676 _ ?side1 ?side2 A2.out).mono ?_); (case side1 => exact cr_ HR0.out); (case side2 => exact HC0.out); rintro e w19 ⟨rfl, hb⟩; refine ⟨_, rfl, ?_⟩; have n0_ := Aside0.mk (below_step (bl_ HB.out) hb); clear HB; have HB := n0_; clear n0_; (try clear hb); (try clear hb2); (try clear hk); (try clear hi)))
  go_ret2
  exact ⟨by first | rfl | (simp [errW_none, errW_some] <;> rfl) | (simp [*, errW_none, errW_some] <;> rfl), bl_ HB.out⟩
end Go.Proofs.Yteodlmgmmpkpoaa.PS
end
section
namespace Go.Proofs.Yteodlmgmmpkpoaa.PS
open Go.RowKit Go.Proofs.YteodlmgmmpkpoaaW.PrintWords Go.Proofs.YteodlmgmmpkpoaaW.PrintLast Go.Proofs.YteodlmgmmpkpoaaW.PrintMore
attribute [local go_sem] max2_int min2_int max_two min_two max_three min_three max_four min_four   -- for this text's walks alone
set_option linter.unusedVariables false
set_option linter.unusedSimpArgs false
def swashplatelaw01_SpansCounts.j0 : Nat → List (List (S27)) → Bool → Option (Bool)
 | 0, _, _ => none
 | k + 1, x0, x18 => if x18 = true then ((swashplatelaw01_works.f k).bind fun t737 => (some t737)) else ((swashplateref01_CopyBoxes.f k x0).bind fun t738 => ((spans_CountP.f t738).bind fun bt741 => ((swashplateref01_Count.f k x0).bind fun bt743 => (if bt741.1 = bt743.1 then (if bt741.2 = bt743.2 then ((swashplatelaw01_works.f k).bind fun t745 => (some t745)) else (some false)) else (some false)))))
def swashplatelaw01_SpansCounts.f (k : Nat) (l0 : List (List (S27))) : Option (Bool) := (swashplatelaw01_farBoxes.f k l0).bind fun t736 => (if t736 = true then (swashplatelaw01_SpansCounts.j0 k l0 true) else (if (l0.length : Int) > 8 then (swashplatelaw01_SpansCounts.j0 k l0 (decide ((l0.length : Int) ≤ 20))) else (swashplatelaw01_SpansCounts.j0 k l0 false)))
set_option maxHeartbeats 8000000 in
set_option maxRecDepth 100000 in
theorem swashplatelaw01_SpansCounts.calls (k : Nat) (A0 : Option Addr) (c0 : Nat) (l0 : List (List (S27))) (r : Bool) (w : World) (hr0 : Kd.C (Kd.slice 27 k27) w A0 l0.length l0) (hc0 : l0.length ≤ c0) (h : swashplatelaw01_SpansCounts.f k l0 = some r) (hrT : Aside0 (r = true)) :
  Calls Try.prog 15 #[.slice A0 l0.length c0] w fun e w' => e = .returned (.bool r) ∧ Below w.heap.size w w' := by
 have HR0 := Aside0.mk hr0
 have HC0 := Aside0.mk hc0
 clear hr0 hc0
 have HB := Aside0.mk (Below.refl w.heap.size w)
 have H : ((swashplatelaw01_farBoxes.f k l0).bind fun t736 => (if t736 = true then (swashplatelaw01_SpansCounts.j0 k l0 true) else (if (l0.length : Int) > 8 then (swashplatelaw01_SpansCounts.j0 k l0 (decide ((l0.length : Int) ≤ 20))) else (swashplatelaw01_SpansCounts.j0 k l0 false)))) = some r := h
 clear h
 have HC2 := Aside0.mk H
 clear H
 go_enter Try.func15, Try.ntmps15
 go_upto_region 1 with (fail)
 go_cut [18] (fun v18 wc => ∃ (kq : Nat) (x18_1 : Bool), v18 = .bool x18_1 ∧ Aside0 (swashplatelaw01_SpansCounts.j0 kq l0 x18_1 = some r) ∧ Aside0 (kq ≤ k) ∧ Aside0 (Below w.heap.size w wc))
 case first =>
  have H := HC2.out
  clear HC2
  replace H := Option.bind_eq_some_iff.mp H
  obtain ⟨t736, A30, H⟩ := H
  replace H : (if t736 = true then (swashplatelaw01_SpansCounts.j0 k l0 true) else (if (l0.length : Int) > 8 then (swashplatelaw01_SpansCounts.j0 k l0 (decide ((l0.length : Int) ≤ 20))) else (swashplatelaw01_SpansCounts.j0 k l0 false))) = some r := H
  have A3 := Aside0.mk A30
  clear A30
  by_cases c4 : t736 = true
  ·
   subst c4
   have H1 : (swashplatelaw01_SpansCounts.j0 k l0 true) = some r := by rw [if_pos rfl] at H; exact H
   clear H
   have H := H1
   clear H1
   have H' := Aside0.mk H
   clear H
   go_wp2_with (first | ((with_reducible refine gate_callee (f := 64) rfl ?_); refine goesL_ (some 8) rfl rfl Try.func64 (by kernel_rfl) rfl #[.slice A0 l0.length c0] rfl (by (try simp only [List.map_toArray, List.map_cons, List.map_nil]); first | done | rfl | (simp only [List.length_drop, List.length_take]; rfl)) ?_; (with_reducible refine (swashplatelaw01_farBoxes.calls k _ _ l0 true _ ?side1 ?side2 A3.out).mono ?_); (case side1 => exact cr_ (Kd.C_below HR0.out HB.out)); (case side2 => exact HC0.out); rintro e w' ⟨rfl, ⟨nd, rfl⟩⟩; refine ⟨_, rfl, ?_⟩))
   go_meet
   case rel => exact ⟨_, (true), (by first | rfl | (simp; done) | (simp [*]; done)), H', ⟨by first | omega | exact Nat.le_refl _⟩, ⟨bl_ HB.out⟩⟩
  ·
   replace c4 := Bool.eq_false_iff.mpr c4
   subst c4
   have H1 : (if (l0.length : Int) > 8 then (swashplatelaw01_SpansCounts.j0 k l0 (decide ((l0.length : Int) ≤ 20))) else (swashplatelaw01_SpansCounts.j0 k l0 false)) = some r := by rw [if_neg (show ¬ (false = true) by decide)] at H; exact H
   clear H
   have H := H1
   clear H1
   by_cases c5 : (l0.length : Int) > 8
   ·
    rw [if_pos c5] at H
    have c5b0 : decide (8 < (l0.length : Int)) = true := decide_eq_true c5
    have c5b1 : decide (8 < l0.length) = true := decide_eq_true (by omega)
    clear c5
    (first | rw [c5b0] | (simp only [i64_w, i32_w]; rw [c5b0]) | skip)
    have H' := Aside0.mk H
    clear H
    go_wp2_with (first | ((with_reducible refine gate_callee (f := 64) rfl ?_); refine goesL_ (some 8) rfl rfl Try.func64 (by kernel_rfl) rfl #[.slice A0 l0.length c0] rfl (by (try simp only [List.map_toArray, List.map_cons, List.map_nil]); first | done | rfl | (simp only [List.length_drop, List.length_take]; rfl)) ?_; (with_reducible refine (swashplatelaw01_farBoxes.calls k _ _ l0 false _ ?side1 ?side2 A3.out).mono ?_); (case side1 => exact cr_ (Kd.C_below HR0.out HB.out)); (case side2 => exact HC0.out); rintro e w' ⟨rfl, ⟨nd, rfl⟩⟩; refine ⟨_, rfl, ?_⟩))
    go_meet
    case rel => exact ⟨_, (decide ((l0.length : Int) ≤ 20)), (by first | rfl | (simp; done) | (simp [*]; done)), H', ⟨by first | omega | exact Nat.le_refl _⟩, ⟨bl_ HB.out⟩⟩
   ·
    rw [if_neg c5] at H
    have c5b0 : decide (8 < (l0.length : Int)) = false := decide_eq_false c5
    have c5b1 : decide (8 < l0.length) = false := decide_eq_false (by omega)
    clear c5
    (first | rw [c5b0] | (simp only [i64_w, i32_w]; rw [c5b0]) | skip)
    have H' := Aside0.mk H
    clear H
    go_wp2_with (first | ((with_reducible refine gate_callee (f := 64) rfl ?_); refine goesL_ (some 8) rfl rfl Try.func64 (by kernel_rfl) rfl #[.slice A0 l0.length c0] rfl (by (try simp only [List.map_toArray, List.map_cons, List.map_nil]); first | done | rfl | (simp only [List.length_drop, List.length_take]; rfl)) ?_; (with_reducible refine (swashplatelaw01_farBoxes.calls k _ _ l0 false _ ?side1 ?side2 A3.out).mono ?_); (case side1 => exact cr_ (Kd.C_below HR0.out HB.out)); (case side2 => exact HC0.out); rintro e w' ⟨rfl, ⟨nd, rfl⟩⟩; refine ⟨_, rfl, ?_⟩))
    go_meet
    case rel => exact ⟨_, (false), (by first | rfl | (simp; done) | (simp [*]; done)), H', ⟨by first | omega | exact Nat.le_refl _⟩, ⟨bl_ HB.out⟩⟩
 case rest =>
  clear HC2
  try clear c1
  try clear p2
  try clear c4
  try clear c5
  try clear c5b0
  try clear c5b1
  obtain ⟨kq, x18_1, rfl, HA, HJ1, HB⟩ := hcut
  cases kq with
  | zero => exact absurd HA.out (by simp [swashplatelaw01_SpansCounts.j0])
  | succ kj1 =>
   have H := HA.out
   clear HA
   simp only [swashplatelaw01_SpansCounts.j0] at H
   by_cases c6 : x18_1 = true
   ·
    subst c6
    have H1 : ((swashplatelaw01_works.f kj1).bind fun t737 => (some t737)) = some r := by rw [if_pos rfl] at H; exact H
    clear H
    have H := H1
    clear H1
    replace H := Option.bind_eq_some_iff.mp H
    obtain ⟨t737, A70, H⟩ := H
    replace H : (some t737) = some r := H
    have A7 := Aside0.mk A70
    clear A70
    obtain rfl := Option.some.inj H
    go_wp2_with (first | ((with_reducible refine gate_callee (f := 22) rfl ?_); refine goesL_ (some 19) rfl rfl Try.func22 (by kernel_rfl) rfl #[] rfl (by (try simp only [List.map_toArray, List.map_cons, List.map_nil]); first | done | rfl | (simp only [List.length_drop, List.length_take]; rfl)) ?_; (with_reducible refine (swashplatelaw01_works.calls kj1  t737 _ A7.out).mono ?_); rintro e w8 ⟨rfl, hb⟩; refine ⟨_, rfl, ?_⟩; have n0_ := Aside0.mk (below_step (bl_ HB.out) hb); clear HB; have HB := n0_; clear n0_; (try clear hb); (try clear hb2); (try clear hk); (try clear hi)))
    go_ret
    exact ⟨by first | rfl | (simp [errW_none, errW_some] <;> rfl) | (simp [*, errW_none, errW_some] <;> rfl), bl_ HB.out⟩
   ·
    replace c6 := Bool.eq_false_iff.mpr c6
    subst c6
    have H1 : ((swashplateref01_CopyBoxes.f kj1 l0).bind fun t738 => ((spans_CountP.f t738).bind fun bt741 => ((swashplateref01_Count.f kj1 l0).bind fun bt743 => (if bt741.1 = bt743.1 then (if bt741.2 = bt743.2 then ((swashplatelaw01_works.f kj1).bind fun t745 => (some t745)) else (some false)) else (some false))))) = some r := by rw [if_neg (show ¬ (false = true) by decide)] at H; exact H
    clear H
    have H := H1
    clear H1
    replace H := Option.bind_eq_some_iff.mp H
    obtain ⟨t738, A90, H⟩ := H
    replace H : ((spans_CountP.f t738).bind fun bt741 => ((swashplateref01_Count.f kj1 l0).bind fun bt743 => (if bt741.1 = bt743.1 then (if bt741.2 = bt743.2 then ((swashplatelaw01_works.f kj1).bind fun t745 => (some t745)) else (some false)) else (some false)))) = some r := H
    have A9 := Aside0.mk A90
    clear A90
    replace H := Option.bind_eq_some_iff.mp H
    obtain ⟨⟨t741, t742⟩, A100, H⟩ := H
    replace H : ((swashplateref01_Count.f kj1 l0).bind fun bt743 => (if t741 = bt743.1 then (if t742 = bt743.2 then ((swashplatelaw01_works.f kj1).bind fun t745 => (some t745)) else (some false)) else (some false))) = some r := H
    have A10 := Aside0.mk A100
    clear A100
    replace H := Option.bind_eq_some_iff.mp H
    obtain ⟨⟨t743, t744⟩, A110, H⟩ := H
    replace H : (if t741 = t743 then (if t742 = t744 then ((swashplatelaw01_works.f kj1).bind fun t745 => (some t745)) else (some false)) else (some false)) = some r := H
    have A11 := Aside0.mk A110
    clear A110
    by_cases c12 : t741 = t743
    ·
     rw [if_pos c12] at H
     have c12b0 : (t741 == t743) = true := beq_iff_eq.mpr c12
     have c12b1 : (t741 != t743) = false := bne_eq_false_iff_eq.mpr c12
     clear c12
     by_cases c13 : t742 = t744
     ·
      rw [if_pos c13] at H
      have c13b0 : (t742 == t744) = true := beq_iff_eq.mpr c13
      have c13b1 : (t742 != t744) = false := bne_eq_false_iff_eq.mpr c13
      clear c13
      replace H := Option.bind_eq_some_iff.mp H
      obtain ⟨t745, A140, H⟩ := H
      replace H : (some t745) = some r := H
      have A14 := Aside0.mk A140
      clear A140
      obtain rfl := Option.some.inj H
      go_wp2_with (first | ((with_reducible refine gate_callee (f := 66) rfl ?_); refine goesL_ (some 22) rfl rfl Try.func66 (by kernel_rfl) rfl #[.slice A0 l0.length c0] rfl (by (try simp only [List.map_toArray, List.map_cons, List.map_nil]); first | done | rfl | (simp only [List.length_drop, List.length_take]; rfl)) ?_; (with_reducible refine (swashplateref01_CopyBoxes.calls kj1 _ _ l0 t738 _ ?side1 ?side2 A9.out).mono ?_); (case side1 => exact cr_ (Kd.C_below HR0.out HB.out)); (case side2 => exact HC0.out); rintro e w15 ⟨v739, rfl, ho0, hb⟩; refine ⟨_, rfl, ?_⟩; have n0_ := Aside0.mk (Kd.S_lower ho0 (below_size (bl_ HB.out))); have n1_ := Aside0.mk (below_step (bl_ HB.out) hb); clear HB; have HO740 := n0_; have HB := n1_; clear n0_ n1_; (try clear hb); (try clear hb2); (try clear hk); (try clear hi); (try clear ho0); obtain ⟨Ao16, co16, eo16⟩ := Kd.S_slice HO740.out; subst eo16) | ((with_reducible refine gate_callee (f := 65) rfl ?_); refine goesL_ (some 23) rfl rfl Try.func65 (by kernel_rfl) rfl #[.slice Ao16 t738.length co16] rfl (by (try simp only [List.map_toArray, List.map_cons, List.map_nil]); first | done | rfl | (simp only [List.length_drop, List.length_take]; rfl)) ?_; (with_reducible refine (spans_CountP.calls _ _ t738 t741 t742 _ ?side1 ?side2 A10.out).mono ?_); (case side1 => exact cr_ (Kd.S_reads' HO740.out).2.2); (case side2 => exact (Kd.S_reads' HO740.out).2.1); rintro e w17 ⟨rfl, hb⟩; refine ⟨_, rfl, ?_⟩; have n0_ := Aside0.mk (Kd.S_below (by (with_reducible repeat (first | apply Kd.S_alloc | apply Kd.S_drewN | apply Kd.S_drew)); exact HO740.out) hb); have n1_ := Aside0.mk (below_step (bl_ HB.out) hb); clear HO740 HB; have HO740 := n0_; have HB := n1_; clear n0_ n1_; (try clear hb); (try clear hb2); (try clear hk); (try clear hi)) | ((with_reducible refine gate_callee (f := 67) rfl ?_); refine goesL_ (some 28) rfl rfl Try.func67 (by kernel_rfl) rfl #[.slice A0 l0.length c0] rfl (by (try simp only [List.map_toArray, List.map_cons, List.map_nil]); first | done | rfl | (simp only [List.length_drop, List.length_take]; rfl)) ?_; (with_reducible refine (swashplateref01_Count.calls kj1 _ _ l0 t743 t744 _ ?side1 ?side2 A11.out).mono ?_); (case side1 => exact cr_ (Kd.C_below HR0.out HB.out)); (case side2 => exact HC0.out); rintro e w18 ⟨rfl, hb⟩; refine ⟨_, rfl, ?_⟩; have n0_ := Aside0.mk (Kd.S_below (by (with_reducible repeat (first | apply Kd.S_alloc | apply Kd.S_drewN | apply Kd.S_drew)); exact HO740.out) hb); have n1_ := Aside0.mk (below_step (bl_ HB.out) hb); clear HO740 HB; have HO740 := n0_; have HB := n1_; clear n0_ n1_; (try clear hb); (try clear hb2); (try clear hk); (try clear hi)) | (go_at_call 22; (with_reducible refine (swashplatelaw01_works.calls kj1  t745 _ A14.out).mono ?_); rintro e w19 ⟨rfl, hb⟩; have n0_ := Aside0.mk (Kd.S_below (by (with_reducible repeat (first | apply Kd.S_alloc | apply Kd.S_drewN | apply Kd.S_drew)); exact HO740.out) hb); have n1_ := Aside0.mk (below_step (bl_ HB.out) hb); clear HO740 HB; have HO740 := n0_; have HB := n1_; clear n0_ n1_; (try clear hb); (try clear hb2); (try clear hk); (try clear hi)))
      go_ret
      exact ⟨by first | rfl | (simp [errW_none, errW_some] <;> rfl) | (simp [*, errW_none, errW_some] <;> rfl), bl_ HB.out⟩
     ·
      rw [if_neg c13] at H
      have c13b0 : (t742 == t744) = false := beq_eq_false_iff_ne.mpr c13
      have c13b1 : (t742 != t744) = true := bne_iff_ne.mpr c13
      exact absurd ((Option.some.inj H).trans hrT.out) (by decide)
    ·
     rw [if_neg c12] at H
     have c12b0 : (t741 == t743) = false := beq_eq_false_iff_ne.mpr c12
     have c12b1 : (t741 != t743) = true := bne_iff_ne.mpr c12
     exact absurd ((Option.some.inj H).trans hrT.out) (by decide)
end Go.Proofs.Yteodlmgmmpkpoaa.PS
end
section
namespace Go.Proofs.Yteodlmgmmpkpoaa.PS
open Go.RowKit Go.Proofs.YteodlmgmmpkpoaaW.PrintWords Go.Proofs.YteodlmgmmpkpoaaW.PrintLast Go.Proofs.YteodlmgmmpkpoaaW.PrintMore
set_option linter.unusedVariables false
set_option linter.unusedSimpArgs false
theorem size_fold (b : List S27) : ∀ c : Int, b.foldl (fun n s => n * (s.f1 - s.f0 + 1)) c = c * sizeT b := by
  induction b with
  | nil => intro c; simp [sizeT]
  | cons s b ih =>
    intro c
    unfold sizeT
    rw [List.foldl_cons, List.foldl_cons, ih, ih (1 * (s.f1 - s.f0 + 1)), Int.one_mul, Int.mul_assoc]
theorem size_vol : ∀ b : List S27, okA b = true → sizeT b = (volN b : Int)
  | [], _ => rfl
  | s :: b, h => by
    obtain ⟨h1, h2⟩ := (okA_cons _ _).1 h
    have e : sizeT (s :: b) = (s.f1 - s.f0 + 1) * sizeT b := by
      show b.foldl _ (1 * (s.f1 - s.f0 + 1)) = _
      rw [size_fold, Int.one_mul]
    rw [e, size_vol b h2, show volN (s :: b) = (s.f1 - s.f0 + 1).toNat * volN b from rfl, Int.natCast_mul]
    congr 1
    omega
theorem size_pos {b : List S27} (h : okA b = true) : 1 ≤ sizeT b := by
  induction b with
  | nil => decide
  | cons s b ih =>
    obtain ⟨h1, h2⟩ := (okA_cons _ _).1 h
    have e : sizeT (s :: b) = (s.f1 - s.f0 + 1) * sizeT b := by
      show b.foldl _ (1 * (s.f1 - s.f0 + 1)) = _
      rw [size_fold, Int.one_mul]
    have := Int.mul_pos (show 0 < s.f1 - s.f0 + 1 by omega) (show 0 < sizeT b by have := ih h2; omega)
    omega
theorem size_loop (b : List S27) (hb : boxB b = true) : ∀ (k d : Nat) (pt : Int), d ≤ b.length → b.length - d < k → 1 ≤ pt → pt ≤ bndT d → swashplateref01_size.l0 k b pt d = some ((b.drop d).foldl (fun n s => n * (s.f1 - s.f0 + 1)) pt)
  | 0, d, pt, _, h, _, _ => absurd h (Nat.not_lt_zero _)
  | k + 1, d, pt, hd, hk, h1, h2 => by
    have h3 := boxB_size hb
    simp only [swashplateref01_size.l0]
    by_cases hlt : d < b.length
    · have hs := boxB_at hb hlt
      have e := drop_stepG z27 b d hlt
      obtain ⟨s, hse⟩ : ∃ s, b.getD d z27 = s := ⟨_, rfl⟩
      have hm := mul_bnd (d := d) (by omega) h1 h2 (show 1 ≤ (b.getD d z27).f1 - (b.getD d z27).f0 + 1 by omega) (show (b.getD d z27).f1 - (b.getD d z27).f0 + 1 ≤ 2000001 by omega)
      have w1 := Aside0.mk <| wr64 (n := (b.getD d z27).f1 - (b.getD d z27).f0) (by omega) (by omega)
      have w2 := Aside0.mk <| wr64 (n := (b.getD d z27).f1 - (b.getD d z27).f0 + 1) (by omega) (by omega)
      have w3 := Aside0.mk <| wr64 (n := pt * ((b.getD d z27).f1 - (b.getD d z27).f0 + 1)) (Int.le_trans (by decide) hm.1) (Int.le_trans hm.2.2 (by decide))
      have st := Aside0.mk (step64 d (by omega))
      have ih := size_loop b hb k (d + 1) (pt * ((b.getD d z27).f1 - (b.getD d z27).f0 + 1)) (by omega) (by omega) hm.1 hm.2.1
      have c1 : (d : Int) < (b.length : Int) := Int.ofNat_lt.2 hlt
      rw [if_pos c1, if_pos (Int.natCast_nonneg d), rdT27_nat, w1.out, w2.out, w3.out, st.out, ih, e, List.foldl_cons]
    · have c1 : ¬ ((d : Int) < (b.length : Int)) := fun h => hlt (Int.ofNat_lt.1 h)
      rw [if_neg c1, List.drop_of_length_le (Nat.le_of_not_lt hlt)]
      rfl
theorem size_total (b : List S27) (hb : boxB b = true) (k : Nat) (hk : 10 ≤ k) : swashplateref01_size.f k b = some (sizeT b) := by
  unfold swashplateref01_size.f
  have h3 := boxB_size hb
  have := size_loop b hb k 0 1 (Nat.zero_le _) (by omega) (Int.le_refl _) (Int.le_refl _)
  rwa [List.drop_zero] at this
theorem sat_vol : ∀ (L : List (List S27)), (∀ x ∈ L, okA x = true) → ∀ s : Int, 0 ≤ s → satT (L.map sizeT) (min s 1000000000000000000) = min (s + (volL L : Int)) 1000000000000000000
  | [], _, s, _ => by simp [satT, volL]
  | x :: L, h, s, hs => by
    have hx := h x List.mem_cons_self
    have hp := size_pos hx
    have ih := sat_vol L (fun y hy => h y (List.mem_cons_of_mem _ hy)) (s + sizeT x) (by omega)
    rw [List.map_cons]
    show satT (L.map sizeT) (min (min s 1000000000000000000 + sizeT x) 1000000000000000000) = _
    rw [show min (min s 1000000000000000000 + sizeT x) 1000000000000000000 = min (s + sizeT x) 1000000000000000000 by omega, ih, size_vol x hx]
    simp only [volL]
    omega
theorem count_vol (d : Nat) : ∀ (l pre : List (List S27)), (∀ b ∈ pre ++ l, boxB b = true ∧ b.length = d) → ∀ s : Int, 0 ≤ s → countT pre l (min s 1000000000000000000) = min (s + (totV pre l : Int)) 1000000000000000000
  | [], pre, _, s, _ => by simp [countT, totV]
  | a :: l, pre, h, s, hs => by
    have ha := h a (by simp)
    have hok := leftT_ok (a := a) (l := pre) (n := d) ha.1 ha.2 (fun b hm => h b (by simp [hm]))
    simp only [countT]
    rw [sat_vol _ (fun x hx => boxB_ok (hok.1 x hx).1) s hs, count_vol d l (pre ++ [a]) (by rw [List.append_assoc]; exact h) (s + (volL (leftT a pre) : Int)) (by omega)]
    simp only [totV]
    omega
theorem vol_size (x : List S27) (L : List (List S27)) : volL (x :: L) = volN x + volL L := rfl
theorem rcount_inner (l L : List (List S27)) (j : Nat) (r : Int × Int) (K0 : Nat) (hj : j < 100) (hL : L.length ≤ 1679616) (hLb : ∀ x ∈ L, boxB x = true) (hK : 20 ≤ K0) :
    ∀ (k i n : Nat), i ≤ L.length → n + volL (L.drop i) ≤ 8000012000006000001 → (L.length - i) + 1 + K0 ≤ k → (∀ k', K0 ≤ k' → swashplateref01_Count.l0 k' l ((n + volL (L.drop i) : Nat) : Int) ((j + 1 : Nat) : Int) = some r) → swashplateref01_Count.l1 k l n j L i = some r
  | 0, i, n, _, _, h, _ => absurd h (by omega)
  | k + 1, i, n, hi, hv, hk, hr => by
    simp only [swashplateref01_Count.l1]
    by_cases hlt : i < L.length
    · have hx := hLb _ (getD_mem L [] i hlt)
      have e := drop_stepG [] L i hlt
      rw [e, vol_size] at hv hr
      have hsz := size_vol _ (boxB_ok hx)
      have hw : Aside0 (wrap64 ((n : Int) + sizeT (L.getD i [])) = ((n + volN (L.getD i []) : Nat) : Int)) := ⟨by rw [hsz, wr64 (by omega) (by omega)]; rfl⟩
      have st := Aside0.mk (step64 i (by omega))
      rw [if_pos (by omega), if_pos (by omega), rdL2_nat, size_total _ hx k (by omega), Option.bind_some, hw.out, st.out]
      refine rcount_inner l L j r K0 hj hL hLb hK k (i + 1) _ (by omega) (by omega) (by omega) (fun k' hk' => ?_)
      have := hr k' hk'
      rw [← Nat.add_assoc] at this
      exact this
    · have st := Aside0.mk (step64 j (by omega))
      rw [if_neg (by omega), st.out]
      have := hr k (by omega)
      rw [List.drop_of_length_le (by omega)] at this
      exact this
theorem rcount_outer (M C : Nat) (hM : 1679700 ≤ M) (hC : 15000100 ≤ C) (d : Nat) (l : List (List S27)) (hl8 : l.length ≤ 8) (hl : ∀ b ∈ l, boxB b = true ∧ b.length = d) (T : Nat) (hT : T ≤ 8000012000006000001) (r : Nat) :
    ∀ (j k n : Nat), r = l.length - j → j ≤ l.length → n + totV (l.take j) (l.drop j) = T → r * M + C ≤ k → swashplateref01_Count.l0 k l n j = some (min (T : Int) 1000000000000000000, 0) := by
  induction r with
  | zero =>
    intro j k n hr hj hn hk
    obtain ⟨k, rfl⟩ : ∃ m, k = m + 1 := ⟨k - 1, by omega⟩
    obtain rfl : j = l.length := by omega
    rw [List.drop_of_length_le (Nat.le_refl _)] at hn
    simp only [swashplateref01_Count.l0]
    rw [if_neg (by omega), mn_min, ← hn]
    rfl
  | succ r ih =>
    intro j k n hr hj hn hk
    obtain ⟨k, rfl⟩ : ∃ m, k = m + 1 := ⟨k - 1, by omega⟩
    simp only [swashplateref01_Count.l0]
    have hlt : j < l.length := by omega
    obtain ⟨a, ha⟩ : ∃ a, l.getD j [] = a := ⟨_, rfl⟩
    have hmem : a ∈ l := by rw [← ha]; exact getD_mem l [] j hlt
    have hb := hl a hmem
    have ht : l.take (j + 1) = l.take j ++ [a] := by
      rw [List.take_succ_eq_append_getElem hlt, ← ha]
      simp [List.getD_eq_getElem?_getD, List.getElem?_eq_getElem hlt]
    rw [drop_stepG [] l j hlt, ha] at hn
    simp only [totV] at hn
    rw [← ht] at hn
    have hpre : ∀ b ∈ l.take j, boxB b = true ∧ b.length = a.length := fun x hx => ⟨(hl x (List.mem_of_mem_take hx)).1, (hl x (List.mem_of_mem_take hx)).2.trans hb.2.symm⟩
    have hok := leftT_ok (a := a) (l := l.take j) hb.1 rfl hpre
    have hp := pow6 (n := (l.take j).length) (by rw [List.length_take]; omega)
    rw [Nat.succ_mul] at hk
    obtain ⟨q, hq⟩ : ∃ q, r * M = q := ⟨_, rfl⟩
    rw [hq] at ih hk
    rw [if_pos (by omega), if_pos (by omega), if_pos (by omega), rdL2_nat, ha, Int.toNat_natCast, left_total a (l.take j) hb.1 (by rw [List.length_take]; omega) hpre k (by omega), Option.bind_some]
    refine rcount_inner l _ j _ (q + C) (by omega) (by omega) (fun x hx => (hok.1 x hx).1) (by omega) k 0 n (Nat.zero_le _) (by rw [List.drop_zero]; omega) (by omega) (fun k' hk' => ?_)
    rw [List.drop_zero]
    exact ih (j + 1) k' (n + volL (leftT a (l.take j))) (by omega) (by omega) (by omega) hk'
def cntR (l : List (List S27)) : Int × Int := if 20 < l.length then (0, 2) else if listE l = 0 then (countT [] l 0, 0) else (0, listE l)
theorem rcount_total (l : List (List S27)) (h8 : l.length ≤ 8 ∨ 20 < l.length) (k : Nat) (hk : 100000000 ≤ k) : swashplateref01_Count.f k l = some (cntR l) := by
  unfold swashplateref01_Count.f cntR
  by_cases h20 : 20 < l.length
  · rw [if_pos h20, cl_many l h20, Option.bind_some, if_neg (by decide)]
  · rw [if_neg h20, cl_free l (by omega) k (by omega), Option.bind_some]
    by_cases he : listE l = 0
    · rw [if_pos he, if_pos he]
      have h := listE_ok he
      have hd3 : (l.headD []).length ≤ 3 := by
        cases l with
        | nil => simp
        | cons a l => exact (boxB_size (h a List.mem_cons_self).1).2
      have hb := tot_bound (l.headD []).length hd3 l h
      have hc := count_vol (l.headD []).length l [] h 0 (Int.le_refl _)
      rw [show min (0 : Int) 1000000000000000000 = 0 by omega, Int.zero_add] at hc
      obtain ⟨M, hM⟩ : ∃ M : Nat, M = 1700000 := ⟨_, rfl⟩
      have h1 : l.length * M ≤ 8 * M := Nat.mul_le_mul_right _ (by omega)
      obtain ⟨C, hC⟩ : ∃ C : Nat, C = 16000000 := ⟨_, rfl⟩
      have := rcount_outer M C (by omega) (by omega) (l.headD []).length l (by omega) h (totV [] l) hb l.length 0 k 0 (by omega) (Nat.zero_le _) (by rw [List.take_zero, List.drop_zero]; omega) (by omega)
      rw [hc]
      exact this
    · rw [if_neg he, if_neg he]
theorem counts_true (l : List (List S27)) : swashplatelaw01_SpansCounts.f 200000000 l = some true := by
  obtain ⟨k, hk⟩ : ∃ k : Nat, 200000000 = k + 1 := ⟨199999999, rfl⟩
  rw [hk]
  have hj : swashplatelaw01_SpansCounts.j0 (k + 1) l true = some true := by
    simp only [swashplatelaw01_SpansCounts.j0]
    rw [if_pos trivial, works_at _ (by omega)]; rfl
  have hmain : farL l = false → (l.length ≤ 8 ∨ 20 < l.length) → swashplatelaw01_SpansCounts.j0 (k + 1) l false = some true := by
    intro hf h8
    have hf' := farL_false hf
    simp only [swashplatelaw01_SpansCounts.j0]
    have hc : spans_CountP.f l = some (cntR l) := by
      unfold spans_CountP.f cntR
      by_cases h20 : 20 < l.length
      · rw [if_pos h20, if_pos h20]
      · rw [if_neg h20, if_neg h20, if_neg (by omega)]
    rw [if_neg (by decide), copyB_total l (by omega) (fun x hx => by have := hf'.2 x hx; omega) k (by omega), Option.bind_some, hc, Option.bind_some, rcount_total l h8 k (by omega), Option.bind_some, if_pos rfl, if_pos rfl, works_at _ (by omega)]
    rfl
  unfold swashplatelaw01_SpansCounts.f
  rw [farL_total l _ (by omega), Option.bind_some]
  rcases Bool.eq_false_or_eq_true (farL l) with hf | hf
  · rw [hf, if_pos rfl, hj]
  · rw [hf, if_neg (by decide)]
    by_cases h8 : 8 < l.length
    · rw [if_pos (by omega)]
      by_cases h20 : l.length ≤ 20
      · rw [decide_eq_true (by omega), hj]
      · rw [decide_eq_false (by omega)]
        exact hmain hf (.inr (by omega))
    · rw [if_neg (by omega)]
      exact hmain hf (.inl (by omega))
end Go.Proofs.Yteodlmgmmpkpoaa.PS
end
section
namespace Go.Proofs.Yteodlmgmmpkpoaa.PS
open Go.RowKit Go.Deep Go.ChangeShapes Go.WideShapes Go.ChangeAt Go.Proofs.YteodlmgmmpkpoaaW.PrintWords
set_option linter.unusedVariables false
set_option maxRecDepth 100000 in
theorem liftedCounts (os : Os) (started : os.Started) (H : Type) (enc : TypeId × Value → H) :
    ReturnsInHanded {} Try.checked os 15 .any (Rows.spansCountsSpec.pre6 enc Try.prog Try.f15 Rows.spansCountsRow.domain false) (Rows.spansCountsSpec.post enc Try.prog Try.f15 false true false false) := by
  refine returnsInHanded_of_change (C := Try.checked) ownNone started (by kernel_rfl) Try.func15
    (ChangeSpec.witness6 (enc := enc) (C := Try.checked) false ⟨#[], #[.slice none 0 0], []⟩ 8 (by kernel_rfl) (by kernel_rfl) (by kernel_rfl) (by kernel_rfl)) ?_
  intro W base args ds gs before hval0 hW hcnd _
  have hval : ∀ (j : Nat) t v, Try.f15.params[j]? = some t → args[j]? = some v → Value.okWide Try.prog W .any base t v := hval0
  have hW' := hW
  obtain ⟨p, q, hA0, hV, rfl, hfz, hnd⟩ := hW
  have hA : DataW.TrodAll enc Try.prog W 0 (fun _ => true) true Try.f15.params.toList args.toList ds p := hA0
  rw [Try.params15] at hA hval
  obtain ⟨v0, vs0, d0, ds0, p0, q0, hargs, rfl, rfl, h0, r0⟩ := trodAll_cons hA
  obtain ⟨rfl, rfl, rfl⟩ := trodAll_nil r0
  obtain rfl : args = #[v0] := by cases args; simp_all
  obtain ⟨rfl, rfl⟩ := trodVars_none hV
  have k0 := h0
  have lt0 : ∀ x ∈ p0, x.block < W.heap.size := by obtain ⟨m, hm⟩ := k0; exact DataW.trod_lt m _ _ _ hm
  obtain ⟨A0, c0, b0, rfl, o01, o02, _, _⟩ := arg95 (hval 0 95 v0 rfl rfl) h0
  clear hA0 hval0
  refine (swashplatelaw01_SpansCounts.calls 200000000 A0 c0 b0 true W o02 o01 (counts_true b0) ⟨rfl⟩).mono fun e W' ⟨he, bel⟩ => ?_
  subst he
  exact ⟨_, rfl, _, _, _, [], _, [], hW', trodAll_mk1 (shut_bool Try.underlying4 _), (trodAll_cons_mk (Below.trod laidOut (by kernel_rfl) (of_decide_eq_true (by kernel_rfl)) k0 bel lt0) trodAll_mk0), rfl, bel.frame _, fun h => by cases h⟩
theorem factsCounts : joinedFacts Try.prog 15 Try.f15 Rows.spansCountsSpec Rows.spansCountsRow = true := by
  have fk : (Rows.spansCountsRow.plainKeys == Try.prog.plainKeys) = true := factKeys
  have fl : (Rows.spansCountsRow.lifted == Try.prog.liftsFinal) = true := factLifted
  have fm : (Try.prog.make == some Rows.spansCountsRow.make) = true := factMake
  unfold joinedFacts
  repeat' (with_reducible refine Bool.and_eq_true_iff.2 ⟨?_, ?_⟩)
  all_goals first | (with_reducible exact fk) | (with_reducible exact factHeard) | (with_reducible exact factEnter) | (with_reducible exact fl) | (with_reducible exact fm) | kernel_rfl
theorem overCounts : Rows.spansCountsRow.holds Try.pinned (OpenSpec.ofChange Rows.spansCountsSpec) :=
  OpenClaim.holds_of_wide 15 Try.f15 rfl rfl rfl rfl rfl rfl rfl ⟨rfl, rfl, rfl, rfl, rfl⟩ rfl rfl rfl rfl rfl (by kernel_rfl) Try.func15 factsCounts
    (of_decide_eq_true (by kernel_rfl)) (by unfold Func.isWrapper; first | (rw [if_pos (by decide +kernel)]; kernel_rfl) | (rw [if_neg (by decide +kernel)]; exact ⟨rfl, rfl⟩))
    (fun os started H enc _ => liftedCounts os started H enc)
theorem countsProved : Rows.SpansCountsSaid := overCounts
#print axioms countsProved
end Go.Proofs.Yteodlmgmmpkpoaa.PS
end
