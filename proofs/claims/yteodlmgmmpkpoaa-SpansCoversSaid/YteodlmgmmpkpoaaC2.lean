-- Printed by a program of this session out of the translation (hybrid print) and out of hand proofs. Not trusted: Lean checks it.
import Derived.Below
import Derived.Deep.Draws
import Derived.Deep.AppendLies
import Derived.Maps.AppendAt
import Derived.OwnWalk
import Derived.Laws.BytesArg
import Derived.Laws.MakeOwn
import Derived.Laws.OwnMore
import Derived.Deep.OwnRows
import Derived.Tactics
import Derived.Lib.ConvBytes
import Derived.Laws.Slices
import Derived.WalkKit
import Derived.KernelRfl
import Derived.RowKit3
import Derived.Deep.LoopGhost
import Derived.Deep.QuietTactic
import Derived.BigQuiet
import Derived.WideLaws
import Derived.Deep.DeepCutAuto
import Derived.Deep.CutBlock
import Derived.Deep.RegionHeld3
import Derived.Laws.Rows
import Derived.Lib.AppendStr
import Derived.ArgAppend
import Derived.Laws.IdiomCopy
import Derived.RowKit
import Derived.Test.YteodlmgmmpkpoaaC1
section
namespace Go.Proofs.Yteodlmgmmpkpoaa.PS
open Go.RowKit Go.Proofs.YteodlmgmmpkpoaaW.PrintWords Go.Proofs.YteodlmgmmpkpoaaW.PrintLast Go.Proofs.YteodlmgmmpkpoaaW.PrintMore
attribute [local go_sem] max2_int min2_int max_two min_two max_three min_three max_four min_four   -- for this text's walks alone
set_option linter.unusedVariables false
set_option linter.unusedSimpArgs false
mutual
def spans_check.l0 : Nat → List (List (S27)) → List (List (S27)) → Int → Int → Option (Int)
 | 0, _, _, _, _ => none
 | k + 1, x0, x8, x9, x10 => if x10 < x9 then (if 0 ≤ x10 then (if x10 < (x8.length : Int) then ((spans_Check.f (rd_L2 x8 x10)).bind fun t161 => (if t161 = 0 then (spans_check.l0 k x0 x8 x9 (wrap64 (x10 + 1))) else (some t161))) else (none)) else (none)) else (spans_check.l1 k x0 x0 (x0.length : Int) 0)
def spans_check.l1 : Nat → List (List (S27)) → List (List (S27)) → Int → Int → Option (Int)
 | 0, _, _, _, _ => none
 | k + 1, x0, x20, x21, x22 => if x22 < x21 then (if 0 ≤ x22 then (if x22 < (x20.length : Int) then (if 0 < (x0.length : Int) then (if ((rd_L2 x20 x22).length : Int) = ((rd_L2 x0 0).length : Int) then (spans_check.l1 k x0 x20 x21 (wrap64 (x22 + 1))) else (some 1)) else (none)) else (none)) else (none)) else (some 0)
end
def spans_check.f (k : Nat) (l0 : List (List (S27))) : Option (Int) := spans_check.l0 k l0 l0 (l0.length : Int) 0
set_option maxHeartbeats 8000000 in
set_option maxRecDepth 100000 in
theorem spans_check.calls (k : Nat) (A0 : Option Addr) (c0 : Nat) (l0 : List (List (S27))) (r : Int) (w : World) (hr0 : Kd.C (Kd.slice 27 k27) w A0 l0.length l0) (hc0 : l0.length ≤ c0) (h : spans_check.f k l0 = some r) :
  Calls Try.prog 124 #[.slice A0 l0.length c0] w fun e w' => e = .returned (.int .i64 r) ∧ Below w.heap.size w w' := by
 have HR0 := Aside0.mk hr0
 have HC0 := Aside0.mk hc0
 clear hr0 hc0
 have HB := Aside0.mk (Below.refl w.heap.size w)
 have H : (spans_check.l0 k l0 l0 (l0.length : Int) 0) = some r := h
 clear h
 have H' := Aside0.mk H
 clear H
 go_enter Try.func124, Try.ntmps124
 go_wp2
 go_loopg [10] k (fun kq v10 w' => ∃ (x10_1 : Int), v10 = .int .i64 x10_1 ∧ Aside0 (spans_check.l0 kq l0 l0 (l0.length : Int) x10_1 = some r) ∧ Aside0 (kq ≤ k) ∧ Aside0 (Below w.heap.size w w'))
 case atStart => exact ⟨(0), (by first | rfl | (simp; done) | (simp [*]; done)), H', ⟨Nat.le_refl _⟩, ⟨bl_ HB.out⟩⟩
 case round =>
  clear H'
  try clear c1
  obtain ⟨x10_1, rfl, HA, HK1, HB⟩ := hrel
  cases gk with
  | zero => exact absurd HA.out (by simp [spans_check.l0])
  | succ k1 =>
   have H := HA.out
   clear HA
   simp only [spans_check.l0] at H
   by_cases c2 : x10_1 < (l0.length : Int)
   ·
    rw [if_pos c2] at H
    have c2b0 : decide (x10_1 < (l0.length : Int)) = true := decide_eq_true c2
    clear c2
    by_cases c3 : 0 ≤ x10_1
    ·
     rw [if_pos c3] at H
     have c3b0 : decide (0 ≤ x10_1) = true := decide_eq_true c3
     clear c3
     by_cases c4 : x10_1 < (l0.length : Int)
     ·
      rw [if_pos c4] at H
      have c4b0 : decide (x10_1 < (l0.length : Int)) = true := decide_eq_true c4
      clear c4
      replace H := Option.bind_eq_some_iff.mp H
      obtain ⟨t161, A50, H⟩ := H
      replace H : (if t161 = 0 then (spans_check.l0 k1 l0 l0 (l0.length : Int) (wrap64 (x10_1 + 1))) else (some t161)) = some r := H
      have A5 := Aside0.mk A50
      clear A50
      by_cases c6 : t161 = 0
      ·
       rw [if_pos c6] at H
       have c6b0 : (t161 == 0) = true := beq_iff_eq.mpr c6
       have c6b1 : (t161 != 0) = false := bne_eq_false_iff_eq.mpr c6
       clear c6
       have H' := Aside0.mk H
       clear H
       have p160 : 0 ≤ (x10_1 : Int) := of_decide_eq_true (by first | (with_reducible assumption) | assumption)
       have q160 : x10_1 < (l0.length : Int) := of_decide_eq_true (by first | (with_reducible assumption) | assumption)
       obtain ⟨ad160, A160_0, c160_0, e160, hx160_0, hl160_0, hi160_0⟩ := at_L2 HR0.out x10_1 p160 q160
       cases e160
       replace hx160_0 := (HB.out.cell (World.block_lt_of_cell? w _ hx160_0)).trans hx160_0
       have HR160_0 := Aside0.mk hi160_0
       have HC160_0 := Aside0.mk hl160_0
       clear hi160_0 hl160_0
       replace p160 := eq_true p160
       replace q160 := eq_true q160
       go_wp2_with (first | ((with_reducible refine gate_callee (f := 26) rfl ?_); refine goesL_ (some 15) rfl rfl Try.func26 (by kernel_rfl) rfl #[.slice A160_0 (rd_L2 l0 x10_1).length c160_0] rfl (by (try simp only [List.map_toArray, List.map_cons, List.map_nil]); first | done | rfl | (simp only [List.length_drop, List.length_take]; rfl)) ?_; (with_reducible refine (spans_Check.calls _ _ (rd_L2 l0 x10_1) t161 _ ?side1 ?side2 A5.out).mono ?_); (case side1 => exact cr_ (Kd.C_below HR160_0.out HB.out)); (case side2 => exact HC160_0.out); rintro e w7 ⟨rfl, hb⟩; refine ⟨_, rfl, ?_⟩; have n0_ := Aside0.mk (below_step (bl_ HB.out) hb); clear HB; have HB := n0_; clear n0_; (try clear hb); (try clear hb2); (try clear hk); (try clear hi)))
       go_roundg k1
       case measure => have := HK1.out; omega
       case rel => exact ⟨(wrap64 (x10_1 + 1)), (by first | rfl | (simp; done) | (simp [*]; done)), H', ⟨by have := HK1.out; omega⟩, ⟨bl_ HB.out⟩⟩
      ·
       rw [if_neg c6] at H
       have c6b0 : (t161 == 0) = false := beq_eq_false_iff_ne.mpr c6
       have c6b1 : (t161 != 0) = true := bne_iff_ne.mpr c6
       obtain rfl := Option.some.inj H
       have p160 : 0 ≤ (x10_1 : Int) := of_decide_eq_true (by first | (with_reducible assumption) | assumption)
       have q160 : x10_1 < (l0.length : Int) := of_decide_eq_true (by first | (with_reducible assumption) | assumption)
       obtain ⟨ad160, A160_0, c160_0, e160, hx160_0, hl160_0, hi160_0⟩ := at_L2 HR0.out x10_1 p160 q160
       cases e160
       replace hx160_0 := (HB.out.cell (World.block_lt_of_cell? w _ hx160_0)).trans hx160_0
       have HR160_0 := Aside0.mk hi160_0
       have HC160_0 := Aside0.mk hl160_0
       clear hi160_0 hl160_0
       replace p160 := eq_true p160
       replace q160 := eq_true q160
       go_wp2_with (first | ((with_reducible refine gate_callee (f := 26) rfl ?_); refine goesL_ (some 15) rfl rfl Try.func26 (by kernel_rfl) rfl #[.slice A160_0 (rd_L2 l0 x10_1).length c160_0] rfl (by (try simp only [List.map_toArray, List.map_cons, List.map_nil]); first | done | rfl | (simp only [List.length_drop, List.length_take]; rfl)) ?_; (with_reducible refine (spans_Check.calls _ _ (rd_L2 l0 x10_1) t161 _ ?side1 ?side2 A5.out).mono ?_); (case side1 => exact cr_ (Kd.C_below HR160_0.out HB.out)); (case side2 => exact HC160_0.out); rintro e w8 ⟨rfl, hb⟩; refine ⟨_, rfl, ?_⟩; have n0_ := Aside0.mk (below_step (bl_ HB.out) hb); clear HB; have HB := n0_; clear n0_; (try clear hb); (try clear hb2); (try clear hk); (try clear hi)))
       go_ret
       exact ⟨by first | rfl | (simp [errW_none, errW_some] <;> rfl) | (simp [*, errW_none, errW_some] <;> rfl), bl_ HB.out⟩
     ·
      rw [if_neg c4] at H
      exact absurd H (by simp)
    ·
     rw [if_neg c3] at H
     exact absurd H (by simp)
   ·
    rw [if_neg c2] at H
    have c2b0 : decide (x10_1 < (l0.length : Int)) = false := decide_eq_false c2
    clear c2
    have H' := Aside0.mk H
    clear H
    go_wp2
    go_loopg [22] k1 (fun kq v22 w' => ∃ (x22_2 : Int), v22 = .int .i64 x22_2 ∧ Aside0 (spans_check.l1 kq l0 l0 (l0.length : Int) x22_2 = some r) ∧ Aside0 (kq ≤ k1) ∧ Aside0 (Below w.heap.size w w'))
    case atStart => exact ⟨(0), (by first | rfl | (simp; done) | (simp [*]; done)), H', ⟨Nat.le_refl _⟩, ⟨bl_ HB.out⟩⟩
    case round =>
     clear H'
     try clear c1
     try clear p1
     try clear q1
     try clear hx1
     try clear c2
     try clear c2b0
     try clear p2
     try clear c3
     try clear c3b0
     try clear c4
     try clear c4b0
     try clear c6
     try clear c6b0
     try clear c6b1
     try clear p6
     try clear hx160_0
     try clear p160
     try clear q160
     obtain ⟨x22_2, rfl, HA, HK2, HB⟩ := hrel
     cases gk with
     | zero => exact absurd HA.out (by simp [spans_check.l1])
     | succ k2 =>
      have H := HA.out
      clear HA
      simp only [spans_check.l1] at H
      by_cases c9 : x22_2 < (l0.length : Int)
      ·
       rw [if_pos c9] at H
       have c9b0 : decide (x22_2 < (l0.length : Int)) = true := decide_eq_true c9
       clear c9
       by_cases c10 : 0 ≤ x22_2
       ·
        rw [if_pos c10] at H
        have c10b0 : decide (0 ≤ x22_2) = true := decide_eq_true c10
        clear c10
        by_cases c11 : x22_2 < (l0.length : Int)
        ·
         rw [if_pos c11] at H
         have c11b0 : decide (x22_2 < (l0.length : Int)) = true := decide_eq_true c11
         clear c11
         by_cases c12 : 0 < (l0.length : Int)
         ·
          rw [if_pos c12] at H
          have c12b0 : decide (0 < (l0.length : Int)) = true := decide_eq_true c12
          have c12b1 : decide (0 < l0.length) = true := decide_eq_true (by omega)
          clear c12
          by_cases c13 : ((rd_L2 l0 x22_2).length : Int) = ((rd_L2 l0 0).length : Int)
          ·
           rw [if_pos c13] at H
           have c13b0 : (((rd_L2 l0 x22_2).length : Int) == ((rd_L2 l0 0).length : Int)) = true := beq_iff_eq.mpr c13
           have c13b1 : (((rd_L2 l0 x22_2).length : Int) != ((rd_L2 l0 0).length : Int)) = false := bne_eq_false_iff_eq.mpr c13
           have c13b2 : ((rd_L2 l0 x22_2).length == (rd_L2 l0 0).length) = true := by first | simpa using c13 | (simp at c13 ⊢; omega)
           clear c13
           have H' := Aside0.mk H
           clear H
           have p162 : 0 ≤ (x22_2 : Int) := of_decide_eq_true (by first | (with_reducible assumption) | assumption)
           have q162 : x22_2 < (l0.length : Int) := of_decide_eq_true (by first | (with_reducible assumption) | assumption)
           obtain ⟨ad162, A162_0, c162_0, e162, hx162_0, hl162_0, hi162_0⟩ := at_L2 HR0.out x22_2 p162 q162
           cases e162
           replace hx162_0 := (HB.out.cell (World.block_lt_of_cell? w _ hx162_0)).trans hx162_0
           have HR162_0 := Aside0.mk hi162_0
           have HC162_0 := Aside0.mk hl162_0
           clear hi162_0 hl162_0
           replace p162 := eq_true p162
           replace q162 := eq_true q162
           have p163 : 0 ≤ (0 : Int) := (by omega)
           have q163 : 0 < (l0.length : Int) := of_decide_eq_true (by first | (with_reducible assumption) | assumption)
           obtain ⟨ad163, A163_0, c163_0, e163, hx163_0, hl163_0, hi163_0⟩ := at_L2 HR0.out 0 p163 q163
           obtain rfl : ad162 = ad163 := (by injection e163)
           have qi163 : (0 < l0.length) = True := eq_true (by omega)
           (try rw [show ((0 : Int)).toNat = 0 from rfl] at hx163_0)
           (try rw [Addr.add_zero'] at hx163_0)
           replace hx163_0 := (HB.out.cell (World.block_lt_of_cell? w _ hx163_0)).trans hx163_0
           have HR163_0 := Aside0.mk hi163_0
           have HC163_0 := Aside0.mk hl163_0
           clear hi163_0 hl163_0
           replace p163 := eq_true p163
           replace q163 := eq_true q163
           go_wp2
           go_roundg k2
           case measure => have := HK1.out; have := HK2.out; omega
           case rel => exact ⟨(wrap64 (x22_2 + 1)), (by first | rfl | (simp; done) | (simp [*]; done)), H', ⟨by have := HK1.out; have := HK2.out; omega⟩, ⟨bl_ HB.out⟩⟩
          ·
           rw [if_neg c13] at H
           have c13b0 : (((rd_L2 l0 x22_2).length : Int) == ((rd_L2 l0 0).length : Int)) = false := beq_eq_false_iff_ne.mpr c13
           have c13b1 : (((rd_L2 l0 x22_2).length : Int) != ((rd_L2 l0 0).length : Int)) = true := bne_iff_ne.mpr c13
           have c13b2 : ((rd_L2 l0 x22_2).length == (rd_L2 l0 0).length) = false := by first | simpa using c13 | (simp at c13 ⊢; omega)
           obtain rfl := Option.some.inj H
           have p162 : 0 ≤ (x22_2 : Int) := of_decide_eq_true (by first | (with_reducible assumption) | assumption)
           have q162 : x22_2 < (l0.length : Int) := of_decide_eq_true (by first | (with_reducible assumption) | assumption)
           obtain ⟨ad162, A162_0, c162_0, e162, hx162_0, hl162_0, hi162_0⟩ := at_L2 HR0.out x22_2 p162 q162
           cases e162
           replace hx162_0 := (HB.out.cell (World.block_lt_of_cell? w _ hx162_0)).trans hx162_0
           have HR162_0 := Aside0.mk hi162_0
           have HC162_0 := Aside0.mk hl162_0
           clear hi162_0 hl162_0
           replace p162 := eq_true p162
           replace q162 := eq_true q162
           have p163 : 0 ≤ (0 : Int) := (by omega)
           have q163 : 0 < (l0.length : Int) := of_decide_eq_true (by first | (with_reducible assumption) | assumption)
           obtain ⟨ad163, A163_0, c163_0, e163, hx163_0, hl163_0, hi163_0⟩ := at_L2 HR0.out 0 p163 q163
           obtain rfl : ad162 = ad163 := (by injection e163)
           have qi163 : (0 < l0.length) = True := eq_true (by omega)
           (try rw [show ((0 : Int)).toNat = 0 from rfl] at hx163_0)
           (try rw [Addr.add_zero'] at hx163_0)
           replace hx163_0 := (HB.out.cell (World.block_lt_of_cell? w _ hx163_0)).trans hx163_0
           have HR163_0 := Aside0.mk hi163_0
           have HC163_0 := Aside0.mk hl163_0
           clear hi163_0 hl163_0
           replace p163 := eq_true p163
           replace q163 := eq_true q163
           go_wp2
           go_ret
           exact ⟨by first | rfl | (simp [errW_none, errW_some] <;> rfl) | (simp [*, errW_none, errW_some] <;> rfl), bl_ HB.out⟩
         ·
          rw [if_neg c12] at H
          exact absurd H (by simp)
        ·
         rw [if_neg c11] at H
         exact absurd H (by simp)
       ·
        rw [if_neg c10] at H
        exact absurd H (by simp)
      ·
       rw [if_neg c9] at H
       have c9b0 : decide (x22_2 < (l0.length : Int)) = false := decide_eq_false c9
       clear c9
       obtain rfl := Option.some.inj H
       go_wp2
       go_ret
       exact ⟨by first | rfl | (simp [errW_none, errW_some] <;> rfl) | (simp [*, errW_none, errW_some] <;> rfl), bl_ HB.out⟩
end Go.Proofs.Yteodlmgmmpkpoaa.PS
end
section
namespace Go.Proofs.Yteodlmgmmpkpoaa.PS
open Go.RowKit Go.Shelf Go.Proofs.YteodlmgmmpkpoaaW.PrintWords Go.Proofs.YteodlmgmmpkpoaaW.PrintLast Go.Proofs.YteodlmgmmpkpoaaW.PrintMore
set_option linter.unusedVariables false
set_option linter.unusedSimpArgs false
attribute [local go_sem] Oper.semAt_some
theorem check1_loop (l : List (List S27)) (hl : l.length ≤ 1000) : ∀ (k i : Nat), i ≤ l.length → l.length - i < k →
    spans_check.l1 k l l (l.length : Int) i = some (if (l.drop i).all (fun b => b.length == (l.headD []).length) then 0 else 1)
  | 0, i, _, h => absurd h (Nat.not_lt_zero _)
  | k + 1, i, hi, hk => by
    simp only [spans_check.l1]
    by_cases hlt : i < l.length
    · have h0 : rd_L2 l 0 = l.headD [] := by
        cases l with
        | nil => simp at hlt
        | cons a l => rfl
      rw [if_pos (by omega), if_pos (by omega), if_pos (by omega), if_pos (by omega), h0, show rd_L2 l (i : Int) = l.getD i [] by unfold rd_L2; rw [Int.toNat_natCast], drop_stepG [] l i hlt, List.all_cons]
      by_cases hc : (l.getD i []).length = (l.headD []).length
      · rw [if_pos (by omega), step64 i (by omega), check1_loop l hl k (i + 1) (by omega) (by omega), beq_iff_eq.2 hc, Bool.true_and]
      · rw [if_neg (by omega), show ((l.getD i []).length == (l.headD []).length) = false from beq_eq_false_iff_ne.2 hc]
        rfl
    · rw [if_neg (by omega), List.drop_of_length_le (by omega)]
      rfl
theorem check0_loop (l : List (List S27)) (hl : l.length ≤ 1000) : ∀ (k i : Nat), i ≤ l.length → (l.length - i) + l.length + 2 ≤ k →
    spans_check.l0 k l l (l.length : Int) i = some (if (l.drop i).all boxB then (if sameB (l.headD []).length l then 0 else 1) else 10)
  | 0, i, _, h => absurd h (by omega)
  | k + 1, i, hi, hk => by
    simp only [spans_check.l0]
    by_cases hlt : i < l.length
    · rw [if_pos (by omega), if_pos (by omega), if_pos (by omega), show rd_L2 l (i : Int) = l.getD i [] by unfold rd_L2; rw [Int.toNat_natCast], check_total, Option.bind_some, drop_stepG [] l i hlt, List.all_cons]
      rcases Bool.eq_false_or_eq_true (boxB (l.getD i [])) with hb | hb
      · rw [hb, if_pos rfl, if_pos rfl, step64 i (by omega), check0_loop l hl k (i + 1) (by omega) (by omega), Bool.true_and]
      · rw [hb, if_neg (show ¬ (false = true) by decide), if_neg (show ¬ ((10 : Int) = 0) by decide), Bool.false_and, if_neg (show ¬ (false = true) by decide)]
    · rw [if_neg (by omega), List.drop_of_length_le (by omega), List.all_nil, if_pos rfl]
      have := check1_loop l hl k 0 (Nat.zero_le _) (by omega)
      rw [List.drop_zero] at this
      exact this
theorem checkL_total (l : List (List S27)) (hl : l.length ≤ 30) (k : Nat) (hk : 100 ≤ k) : spans_check.f k l = some (listE l) := by
  unfold spans_check.f
  have := check0_loop l (by omega) k 0 (Nat.zero_le _) (by omega)
  rw [List.drop_zero] at this
  exact this
theorem listE_ok {l : List (List S27)} (h : listE l = 0) : ∀ x ∈ l, boxB x = true ∧ x.length = (l.headD []).length := by
  unfold listE at h
  split at h
  · split at h
    · rename_i h1 h2
      intro x hx
      refine ⟨List.all_eq_true.1 h1 x hx, ?_⟩
      unfold sameB at h2
      exact beq_iff_eq.1 (List.all_eq_true.1 h2 x hx)
    · cases h
  · cases h
theorem restT_ok {L : List (List S27)} {b : List S27} {n : Nat} (hb : boxB b = true) (hn : b.length = n) (hL : ∀ a ∈ L, boxB a = true ∧ a.length = n) : (∀ a ∈ restT L b, boxB a = true ∧ a.length = n) ∧ (restT L b).length ≤ 6 * L.length := by
  have h3 := boxB_size hb
  refine ⟨fun x hx => ?_, ?_⟩
  · obtain ⟨a, ha, hx⟩ := List.mem_flatMap.1 hx
    have h := hL a ha
    have hd := cutT_dim a b [] x hx
    rw [List.length_nil, Nat.zero_add] at hd
    exact ⟨boxB_mk (cutT_ok a b [] x rfl (boxB_ok h.1) (boxB_ok hb) hx) (by omega) (by omega), by omega⟩
  · induction L with
    | nil => simp [restT]
    | cons a L ih =>
      have ih := ih (fun x hx => hL x (List.mem_cons_of_mem _ hx))
      have h := hL a List.mem_cons_self
      have hm := cutT_max a b []
      have h4 := boxB_size h.1
      rw [show restT (a :: L) b = cutT [] a b ++ restT L b from rfl, List.length_append, List.length_cons]
      omega
theorem leftT_snoc (a : List S27) (l : List (List S27)) (b : List S27) : leftT a (l ++ [b]) = restT (leftT a l) b := by
  unfold leftT
  rw [List.foldl_append]
  rfl
theorem leftT_ok {a : List S27} {l : List (List S27)} {n : Nat} (ha : boxB a = true) (hn : a.length = n) (hl : ∀ b ∈ l, boxB b = true ∧ b.length = n) : (∀ x ∈ leftT a l, boxB x = true ∧ x.length = n) ∧ (leftT a l).length ≤ 6 ^ l.length := by
  have key : ∀ (m : List (List S27)), (∀ b ∈ m, boxB b = true ∧ b.length = n) → ∀ L : List (List S27), (∀ x ∈ L, boxB x = true ∧ x.length = n) → (∀ x ∈ m.foldl restT L, boxB x = true ∧ x.length = n) ∧ (m.foldl restT L).length ≤ 6 ^ m.length * L.length := by
    intro m
    induction m with
    | nil => exact fun _ L hL => ⟨hL, by simp⟩
    | cons b m ih =>
      intro hm L hL
      have h1 := restT_ok (hm b List.mem_cons_self).1 (hm b List.mem_cons_self).2 hL
      have h2 := ih (fun x hx => hm x (List.mem_cons_of_mem _ hx)) (restT L b) h1.1
      refine ⟨h2.1, Nat.le_trans h2.2 ?_⟩
      rw [List.length_cons, Nat.pow_succ, Nat.mul_assoc]
      exact Nat.mul_le_mul_left _ h1.2
  have := key l hl [a] (by intro x hx; rw [List.mem_singleton.1 hx]; exact ⟨ha, hn⟩)
  rwa [List.length_singleton, Nat.mul_one] at this
theorem pow6 {n : Nat} (h : n ≤ 8) : 6 ^ n ≤ 1679616 := Nat.le_trans (Nat.pow_le_pow_right (by decide) h) (by decide)
def Rd (W : World) (v : Value) (L : List (List S27)) : Prop := ∃ A c, v = .slice A L.length c ∧ L.length ≤ c ∧ Kd.C (Kd.slice 27 k27) W A L.length L
theorem Rd.below {W W' : World} {v : Value} {L : List (List S27)} (h : Rd W v L) (hb : Below W.heap.size W W') : Rd W' v L := by
  obtain ⟨A, c, h1, h2, h3⟩ := h
  exact ⟨A, c, h1, h2, Kd.C_below h3 hb⟩
theorem Rd.of_S {W : World} {base : Nat} {ok : Nat → Prop} {v : Value} {L : List (List S27)} (h : Kd.S (Kd.slice 27 k27) 38 W base ok v L) : Rd W v L := Kd.R_reads (Kd.S_R h)
end Go.Proofs.Yteodlmgmmpkpoaa.PS
end
section
namespace Go.Proofs.Yteodlmgmmpkpoaa.PS
open Go.RowKit Go.Proofs.YteodlmgmmpkpoaaW.PrintWords Go.Proofs.YteodlmgmmpkpoaaW.PrintLast Go.Proofs.YteodlmgmmpkpoaaW.PrintMore
attribute [local go_sem] max2_int min2_int max_two min_two max_three min_three max_four min_four   -- for this text's walks alone
set_option linter.unusedVariables false
set_option linter.unusedSimpArgs false
theorem k27_heap : Kd.Heap k27 := Kd.heap_iso _ (Kd.heap_pair (Kd.heap_int .i64) (Kd.heap_int .i64))
mutual
def swashplateref01_leftP.l0 : Nat → List (List (S27)) → List (List (S27)) → Int → Option ((List (List (S27))))
 | 0, _, _, _ => none
 | k + 1, x1, x5, x6 => if x6 < (x1.length : Int) then (swashplateref01_leftP.l1 k x1 x5 x6 ([] : List (List (S27))) 0) else (some x5)
def swashplateref01_leftP.l1 : Nat → List (List (S27)) → List (List (S27)) → Int → List (List (S27)) → Int → Option ((List (List (S27))))
 | 0, _, _, _, _, _ => none
 | k + 1, x1, x5, x6, x7, x8 => if x8 < (x5.length : Int) then (if 0 ≤ x8 then (if 0 ≤ x6 then (if x6 < (x1.length : Int) then ((swashplateref01_Minus.f k (rd_L2 x5 x8) (rd_L2 x1 x6)).bind fun bt667 => (if x7.length + bt667.1.length < 5864062014805 then (swashplateref01_leftP.l1 k x1 x5 x6 (x7 ++ bt667.1) (wrap64 (x8 + 1))) else (none))) else (none)) else (none)) else (none)) else (swashplateref01_leftP.l0 k x1 x7 (wrap64 (x6 + 1)))
end
def swashplateref01_leftP.f (k : Nat) (l0 : List (S27)) (l1 : List (List (S27))) : Option ((List (List (S27)))) := swashplateref01_leftP.l0 k l1 (([l0] : List (List (S27)))) 0
def swashplateref01_leftP.T9 : Bool × List (List Nat × List Nat) := (true, [([], []), ([], []), ([0, 1], [0, 1]), ([2], [2]), ([], []), ([], []), ([4, 5], [4, 5]), ([6], [6]), ([3, 7], [3, 7]), ([8], [8]), ([9], [9]), ([9], [9]), ([10, 8, 0, 1, 2, 3, 4, 5, 6, 7, 8, 9, 10], [10]), ([11, 12, 0, 1, 2, 3, 4, 5, 6, 7, 8, 9, 10, 11, 12], [11])])
def swashplateref01_leftP.B9 : List Nat := [0, 0, 3, 7, 0, 0, 48, 112, 255, 511, 1023, 1023, 2047, 8191]
theorem swashplateref01_leftP.tab9 : rtab .any (opsOf Try.f126 9) = swashplateref01_leftP.T9 := by kernel_rfl
theorem swashplateref01_leftP.bits9 : waitsOk swashplateref01_leftP.T9.2 swashplateref01_leftP.B9 = true := by kernel_rfl
set_option maxHeartbeats 8000000 in
set_option maxRecDepth 100000 in
theorem swashplateref01_leftP.calls (k : Nat) (P0_ : Nat → Prop) (A0 : Option Addr) (c0 : Nat) (l0 : List (S27)) (A1 : Option Addr) (c1 : Nat) (l1 : List (List (S27))) (r : List (List (S27))) (w : World) (hs0 : Kd.V k27 27 w w.heap.size (fun k_ => P0_ k_) (.slice A0 l0.length c0) l0) (hr1 : Kd.C (Kd.slice 27 k27) w A1 l1.length l1) (hc1 : l1.length ≤ c1) (h : swashplateref01_leftP.f k l0 l1 = some r) :
  Calls Try.prog 126 #[.slice A0 l0.length c0, .slice A1 l1.length c1] w fun e w' => ∃ v0_ : Value, e = .returned (v0_) ∧ Kd.N (Kd.slice 27 k27) 38 w' w.heap.size (fun k_ => (P0_ k_ ∨ w.heap.size ≤ k_)) v0_ r ∧ Below w.heap.size w w' := by
 have HO0 := Aside0.mk (show Kd.V k27 27 w w.heap.size (fun k_ => (P0_ k_ ∨ w.heap.size ≤ k_)) (.slice A0 l0.length c0) l0 from Kd.V_mono hs0 (fun k_ hk => .inl hk))
 have HR1 := Aside0.mk hr1
 have HC1 := Aside0.mk hc1
 clear hr1 hc1
 have HB := Aside0.mk (Below.refl w.heap.size w)
 have H : (swashplateref01_leftP.l0 k l1 (([l0] : List (List (S27)))) 0) = some r := h
 clear h
 obtain ⟨y662, hy662⟩ : ∃ y_ : List (List (S27)), y_ = (([l0] : List (List (S27)))) := ⟨_, rfl⟩
 replace H : (swashplateref01_leftP.l0 k l1 y662 0) = some r := by first | (rw [hy662]; with_reducible exact H) | (have H2_ := (Option.bind_some _ _).symm.trans H; rw [hy662]; with_reducible exact H2_) | (have H2_ := (Option.bind_some _ _).symm.trans H; with_reducible exact H2_) | with_reducible exact H | (rw [hy662]; exact H) | exact H
 have Ny662 := Aside0.mk hy662
 clear hy662
 have H' := Aside0.mk H
 clear H
 go_enter Try.func126, Try.ntmps126
 go_wp2_with (first | ((with_reducible refine gate_dst (N := 12) rfl ?_); refine Kd.N_lit (Kd.slice 27 k27) _ 38 ?hg (N' := 12) ?hd (xs := ([l0] : List (List (S27)))) (inner := [.slice A0 l0.length c0]) (ok := (fun k_ => (P0_ k_ ∨ w.heap.size ≤ k_))) (okp := (fun k_ => (P0_ k_ ∨ w.heap.size ≤ k_))) ?hr ?hp (fun _ hk => hk) ((show ∀ k_, w.heap.size ≤ k_ → (fun k_ => (P0_ k_ ∨ w.heap.size ≤ k_)) k_ from fun k_ hk => (.inr (Nat.le_trans (below_size (bl_ HB.out)) hk))) _ (Nat.le_refl _)) (Below.refl _ _) (Nat.le_refl _) (by simp) ?_; (case hd => rfl); (case hg => rfl); (case hr => first | (go_simp; done) | (go_simp; rfl)); (case hp => exact (Reps.one (show Kd.FK (Kd.slice 27 k27) _ _ l0 [.slice A0 l0.length c0] from (Kd.FK_slice_mk (Kd.V_reads' (Kd.V_mono (ok' := (fun k_ => (P0_ k_ ∨ w.heap.size ≤ k_))) (HO0.out) (fun k_ hk => hk))).2.1 (Kd.V_F (Kd.V_mono (ok' := (fun k_ => (P0_ k_ ∨ w.heap.size ≤ k_))) (HO0.out) (fun k_ hk => hk))))) (Reps.none _ _))); intro v663 w3 ho4 hb hg_ hnew_; clear hg_ hnew_; (first | rw [← Ny662.out] at ho4 | (simp only [Int.reduceToNat] at ho4; rw [← Ny662.out] at ho4)); have n0_ := Aside0.mk (Kd.V_elder' (by (with_reducible repeat (first | apply Kd.V_alloc | apply Kd.V_drewN | apply Kd.V_drew)); exact HO0.out) (Kd.N_base ho4) hb); have n1_ := Aside0.mk (Kd.N_lower ho4 (below_size (bl_ HB.out))); have n2_ := Aside0.mk (below_step (bl_ HB.out) hb); clear HO0 HB; have HO0 := n0_; have HO664 := n1_; have HB := n2_; clear n0_ n1_ n2_ hb ho4))
 go_loopg [5, 6] k (fun kq v5 v6 w' => ∃ (x5_1 : List (List (S27))) (x6_1 : Int), v6 = .int .i64 x6_1 ∧ Aside0 (swashplateref01_leftP.l0 kq l1 x5_1 x6_1 = some r) ∧ Aside0 (kq ≤ k) ∧ Aside0 (Kd.N (Kd.slice 27 k27) 38 w' w.heap.size (fun k_ => (P0_ k_ ∨ w.heap.size ≤ k_)) v5 x5_1) ∧ Aside0 (Below w.heap.size w w'))
 case atStart => exact ⟨(y662), (0), (by first | rfl | (simp; done) | (simp [*]; done)), H', ⟨Nat.le_refl _⟩, ⟨by (with_reducible repeat (first | apply Kd.N_alloc | apply Kd.N_drewN | apply Kd.N_drew)); exact HO664.out⟩, ⟨bl_ HB.out⟩⟩
 case round =>
  clear H'
  try clear c1
  try clear p2
  obtain ⟨x5_1, x6_1, rfl, HA, HK1, HO_5, HB⟩ := hrel
  cases gk with
  | zero => exact absurd HA.out (by simp [swashplateref01_leftP.l0])
  | succ k1 =>
   have H := HA.out
   clear HA
   simp only [swashplateref01_leftP.l0] at H
   by_cases c5 : x6_1 < (l1.length : Int)
   ·
    rw [if_pos c5] at H
    have c5b0 : decide (x6_1 < (l1.length : Int)) = true := decide_eq_true c5
    clear c5
    have H' := Aside0.mk H
    clear H
    go_wp2
    go_loopg [7, 8] k1 (fun kq v7 v8 w' => ∃ (x7_2 : List (List (S27))) (x8_2 : Int), v8 = .int .i64 x8_2 ∧ Aside0 (swashplateref01_leftP.l1 kq l1 x5_1 x6_1 x7_2 x8_2 = some r) ∧ Aside0 (kq ≤ k1) ∧ Aside0 (Kd.N (Kd.slice 27 k27) 38 w' w.heap.size (fun k_ => (P0_ k_ ∨ w.heap.size ≤ k_) ∧ some k_ ≠ (v7 : Value).ownBlock) u5 x5_1) ∧ Aside0 (Kd.N (Kd.slice 27 k27) 38 w' w.heap.size (fun k_ => (P0_ k_ ∨ w.heap.size ≤ k_) ∧ some k_ ≠ (u5 : Value).ownBlock) v7 x7_2) ∧ Aside0 (Below w.heap.size w w'))
    case atStart => exact ⟨(([] : List (List (S27)))), (0), (by first | rfl | (simp; done) | (simp [*]; done)), H', ⟨Nat.le_refl _⟩, ⟨by (with_reducible repeat (first | apply Kd.N_alloc | apply Kd.N_drewN | apply Kd.N_drew)); exact Kd.N_mono HO_5.out (fun _ hk => ⟨hk, (by simp [Value.ownBlock])⟩)⟩, ⟨by first | exact Kd.S_nil _ _ _ _ _ | exact Kd.N_nil _ _ _ _ _ | exact Kd.V_nil _ _ _ _ _ | exact Kd.Q_nil _ _ _ _ _ | exact Kd.R_nil _ _ _ _ _⟩, ⟨bl_ HB.out⟩⟩
    case round =>
     clear H'
     try clear c1
     try clear p2
     try clear c5
     try clear c5b0
     try clear p2
     obtain ⟨x7_2, x8_2, rfl, HA, HK2, HO_5, HO_7, HB⟩ := hrel
     cases gk with
     | zero => exact absurd HA.out (by simp [swashplateref01_leftP.l1])
     | succ k2 =>
      have H := HA.out
      clear HA
      simp only [swashplateref01_leftP.l1] at H
      by_cases c6 : x8_2 < (x5_1.length : Int)
      ·
       rw [if_pos c6] at H
       have c6b0 : decide (x8_2 < (x5_1.length : Int)) = true := decide_eq_true c6
       clear c6
       by_cases c7 : 0 ≤ x8_2
       ·
        rw [if_pos c7] at H
        have c7b0 : decide (0 ≤ x8_2) = true := decide_eq_true c7
        clear c7
        by_cases c8 : 0 ≤ x6_1
        ·
         rw [if_pos c8] at H
         have c8b0 : decide (0 ≤ x6_1) = true := decide_eq_true c8
         clear c8
         by_cases c9 : x6_1 < (l1.length : Int)
         ·
          rw [if_pos c9] at H
          have c9b0 : decide (x6_1 < (l1.length : Int)) = true := decide_eq_true c9
          clear c9
          replace H := Option.bind_eq_some_iff.mp H
          obtain ⟨⟨t667, t668⟩, A100, H⟩ := H
          replace H : (if x7_2.length + t667.length < 5864062014805 then (swashplateref01_leftP.l1 k2 l1 x5_1 x6_1 (x7_2 ++ t667) (wrap64 (x8_2 + 1))) else (none)) = some r := H
          have A10 := Aside0.mk A100
          clear A100
          by_cases c11 : x7_2.length + t667.length < 5864062014805
          ·
           rw [if_pos c11] at H
           have LMc11 := Aside0.mk c11
           clear c11
           obtain ⟨y671, hy671⟩ : ∃ y_ : List (List (S27)), y_ = (x7_2 ++ t667) := ⟨_, rfl⟩
           replace H : (swashplateref01_leftP.l1 k2 l1 x5_1 x6_1 y671 (wrap64 (x8_2 + 1))) = some r := by first | (rw [hy671]; with_reducible exact H) | (have H2_ := (Option.bind_some _ _).symm.trans H; rw [hy671]; with_reducible exact H2_) | (have H2_ := (Option.bind_some _ _).symm.trans H; with_reducible exact H2_) | with_reducible exact H | (rw [hy671]; exact H) | exact H
           have Ny671 := Aside0.mk hy671
           clear hy671
           have H' := Aside0.mk H
           clear H
           obtain ⟨Ao12, co12, eo12⟩ := Kd.N_slice HO_5.out
           subst eo12
           try go_wp2
           have n0_ := Aside0.mk (Kd.N_drew HO_5.out)
           have n1_ := Aside0.mk (Kd.N_drew HO_7.out)
           have n2_ := Aside0.mk (below_drew1 HB.out)
           clear HO_5 HO_7 HB
           have HO_5 := n0_
           have HO_7 := n1_
           have HB := n2_
           clear n0_ n1_ n2_
           have p665 : 0 ≤ (x8_2 : Int) := of_decide_eq_true (by first | (with_reducible assumption) | assumption)
           have q665 : x8_2 < (x5_1.length : Int) := of_decide_eq_true (by first | (with_reducible assumption) | assumption)
           obtain ⟨ad665, A665_0, c665_0, e665, hx665_0, hl665_0, hi665_0⟩ := at_L2 (Kd.N_reads' HO_5.out).2.2 x8_2 p665 q665
           cases e665
           obtain ⟨ce665, hce665, hMe665, hcc665⟩ := Kd.N_get HO_5.out [] x8_2 p665 (by first | exact q665 | exact of_decide_eq_true (by first | (with_reducible assumption) | assumption) | (have e_ := (Kd.N_reads' HO_5.out).1; omega))
           obtain ⟨ua665_0, uc665_0, rfl, ul665_0, ge665_0⟩ := Kd.FK_slice_open hMe665
           have hv665_0 := hcc665 0 _ rfl
           rw [Nat.add_zero, show ((Kd.slice 27 k27)).sz = 1 from rfl, Nat.mul_one] at hv665_0
           replace hv665_0 := Option.some.inj (hv665_0.symm.trans hx665_0)
           injection hv665_0 with hva_ hvn_ hvc_
           rw [hva_] at ge665_0
           rw [hvc_] at ul665_0
           have HL665_0 := Aside0.mk (show Kd.V k27 27 _ w.heap.size _ _ (rd_L2 x5_1 x8_2) from Kd.V_mk ul665_0 ge665_0)
           clear hva_ hvn_ hvc_ ge665_0 ul665_0 hcc665 hce665
           have HR665_0 := Aside0.mk hi665_0
           have HC665_0 := Aside0.mk hl665_0
           clear hi665_0 hl665_0
           replace p665 := eq_true p665
           replace q665 := eq_true q665
           have p666 : 0 ≤ (x6_1 : Int) := of_decide_eq_true (by first | (with_reducible assumption) | assumption)
           have q666 : x6_1 < (l1.length : Int) := of_decide_eq_true (by first | (with_reducible assumption) | assumption)
           obtain ⟨ad666, A666_0, c666_0, e666, hx666_0, hl666_0, hi666_0⟩ := at_L2 HR1.out x6_1 p666 q666
           have hw666_0 := hx666_0
           cases e666
           replace hx666_0 := (HB.out.cell (World.block_lt_of_cell? w _ hx666_0)).trans hx666_0
           have HR666_0 := Aside0.mk hi666_0
           have HC666_0 := Aside0.mk hl666_0
           clear hi666_0 hl666_0
           replace p666 := eq_true p666
           replace q666 := eq_true q666
           refine start_ (n := 14) (S := fun w' => w'.cell? (ad665.add (x8_2).toNat) = some (.slice A665_0 (rd_L2 x5_1 x8_2).length c665_0) ∧ w'.cell? (ad666.add (x6_1).toNat) = some (.slice A666_0 (rd_L2 l1 x6_1).length c666_0)) (ds := []) #[false, false, false, false, false, false, false, false, false, false, false, false, false, false] (by kernel_rfl) rfl rfl ⟨hx665_0, ((HB.out.cell (World.block_lt_of_cell? w _ hw666_0)).trans hw666_0)⟩ (fun hHeld => ?_); refine with_tabW swashplateref01_leftP.tab9 swashplateref01_leftP.bits9 (fun HT_ HW_ => ?_)
           generalize wr.drew = w13 at HO_5 HO_7 HB HL665_0 HR665_0 HR666_0 hx665_0 hx666_0 hHeld ⊢
           refine pure_ (i := 0) (N := some 26) (v := ?_) (a' := ?_) #[true, false, false, false, false, false, false, false, false, false, false, false, false, false] rfl rfl (any_of HT_.out (by kernel_rfl)) (fun _ _ _ h => h) (Or.inl ⟨by rfl, ?_⟩) ?_ ?_
           rotate_left
           ·
            intro w'
            go_simp
            with_reducible rfl
           rotate_left
           ·
            simp only [Act.put, List.setIfInBounds_toArray, List.set_cons_zero, List.set_cons_succ, i64_w, i32_w]
            rfl
           refine pure_ (i := 1) (N := some 27) (v := ?_) (a' := ?_) #[true, true, false, false, false, false, false, false, false, false, false, false, false, false] rfl rfl (any_of HT_.out (by kernel_rfl)) (fun _ _ _ h => h) (Or.inl ⟨by rfl, ?_⟩) ?_ ?_
           rotate_left
           ·
            intro w'
            go_simp
            with_reducible rfl
           rotate_left
           ·
            simp only [Act.put, List.setIfInBounds_toArray, List.set_cons_zero, List.set_cons_succ, i64_w, i32_w]
            rfl
           refine pure_ (i := 2) (N := some 28) (v := ?_) (a' := ?_) #[true, true, true, false, false, false, false, false, false, false, false, false, false, false] rfl rfl (any_of HT_.out (by kernel_rfl)) (fun _ _ _ h => h) (Or.inl ⟨by rfl, ?_⟩) ?_ ?_
           rotate_left
           ·
            intro w'
            go_simp
            with_reducible rfl
           rotate_left
           ·
            simp only [Act.put, List.setIfInBounds_toArray, List.set_cons_zero, List.set_cons_succ, i64_w, i32_w]
            rfl
           refine pure_ (i := 4) (N := some 30) (v := ?_) (a' := ?_) #[true, true, true, false, true, false, false, false, false, false, false, false, false, false] rfl rfl (any_of HT_.out (by kernel_rfl)) (fun _ _ _ h => h) (Or.inl ⟨by rfl, ?_⟩) ?_ ?_
           rotate_left
           ·
            intro w'
            go_simp
            with_reducible rfl
           rotate_left
           ·
            simp only [Act.put, List.setIfInBounds_toArray, List.set_cons_zero, List.set_cons_succ, i64_w, i32_w]
            rfl
           refine pure_ (i := 5) (N := some 31) (v := ?_) (a' := ?_) #[true, true, true, false, true, true, false, false, false, false, false, false, false, false] rfl rfl (any_of HT_.out (by kernel_rfl)) (fun _ _ _ h => h) (Or.inl ⟨by rfl, ?_⟩) ?_ ?_
           rotate_left
           ·
            intro w'
            go_simp
            with_reducible rfl
           rotate_left
           ·
            simp only [Act.put, List.setIfInBounds_toArray, List.set_cons_zero, List.set_cons_succ, i64_w, i32_w]
            rfl
           refine pure_ (i := 6) (N := some 32) (v := ?_) (a' := ?_) #[true, true, true, false, true, true, true, false, false, false, false, false, false, false] rfl rfl (any_of HT_.out (by kernel_rfl)) (fun _ _ _ h => h) (Or.inl ⟨by rfl, ?_⟩) ?_ ?_
           rotate_left
           ·
            intro w'
            go_simp
            with_reducible rfl
           rotate_left
           ·
            simp only [Act.put, List.setIfInBounds_toArray, List.set_cons_zero, List.set_cons_succ, i64_w, i32_w]
            rfl
           refine take_ (i := 3) (N := some 29) (v := ?_) (a' := ?_) #[true, true, true, true, true, true, true, false, false, false, false, false, false, false] rfl rfl (take_ofW HT_.out HW_.out (by kernel_rfl)) (fun _ _ _ h => h) (Or.inl ⟨by rfl, ?_⟩) hHeld ?_ ?_
           rotate_left
           ·
            rintro w' ⟨s0, s1⟩
            go_simp
            with_reducible rfl
           rotate_left
           ·
            simp only [Act.put, List.setIfInBounds_toArray, List.set_cons_zero, List.set_cons_succ, i64_w, i32_w]
            rfl
           refine take_ (i := 7) (N := some 33) (v := ?_) (a' := ?_) #[true, true, true, true, true, true, true, true, false, false, false, false, false, false] rfl rfl (take_ofW HT_.out HW_.out (by kernel_rfl)) (fun _ _ _ h => h) (Or.inl ⟨by rfl, ?_⟩) hHeld ?_ ?_
           rotate_left
           ·
            rintro w' ⟨s0, s1⟩
            go_simp
            with_reducible rfl
           rotate_left
           ·
            simp only [Act.put, List.setIfInBounds_toArray, List.set_cons_zero, List.set_cons_succ, i64_w, i32_w]
            rfl
           refine one_ (i := 8) (N := some 34) #[true, true, true, true, true, true, true, true, true, false, false, false, false, false] rfl rfl (one_of HT_.out (by kernel_rfl)) (by decide) (fun K hK => ?_)
           refine goes_ Try.func61 (by kernel_rfl) rfl #[.slice A665_0 (rd_L2 x5_1 x8_2).length c665_0, .slice A666_0 (rd_L2 l1 x6_1).length c666_0] (by rfl) rfl rfl (by (try simp only [List.map_toArray, List.map_cons, List.map_nil]); first | done | rfl | (simp only [List.length_drop, List.length_take]; rfl)) ?_
           with_reducible refine (swashplateref01_Minus.calls k2 _ _ (rd_L2 x5_1 x8_2) _ _ (rd_L2 l1 x6_1) t667 t668 _ ?side1 ?side2 ?side3 ?side4 A10.out).mono ?_
           (case side1 => exact cr_ (by repeat (first | (with_reducible exact HR665_0.out) | (with_reducible refine Kd.C_alloc ?_ _) | (with_reducible refine Kd.C_drewN ?_ _) | (with_reducible refine Kd.C_drew ?_) | exact HR665_0.out)))
           (case side2 => exact HC665_0.out)
           (case side3 => exact cr_ (Kd.C_below HR666_0.out HB.out))
           (case side4 => exact HC666_0.out)
           rintro e w14 ⟨v669, rfl, ho0, hb⟩
           have HS0_ := (hb.cell (World.block_lt_of_cell? _ _ (hHeld.1))).trans (hHeld.1)
           refine ⟨_, rfl, ?_⟩
           have n0_ := Aside0.mk (Kd.N_elder' (by (with_reducible repeat (first | apply Kd.N_alloc | apply Kd.N_drewN | apply Kd.N_drew)); exact HO_5.out) (Kd.N_base (Kd.S_N ho0)) hb)
           have n1_ := Aside0.mk (Kd.N_elder' (by (with_reducible repeat (first | apply Kd.N_alloc | apply Kd.N_drewN | apply Kd.N_drew)); exact HO_7.out) (Kd.N_base (Kd.S_N ho0)) hb)
           have n2_ := Aside0.mk (Kd.V_elder' (by (with_reducible repeat (first | apply Kd.V_alloc | apply Kd.V_drewN | apply Kd.V_drew)); exact HL665_0.out) (Kd.N_base (Kd.S_N ho0)) hb)
           have n3_ := Aside0.mk (Kd.N_lower (Kd.N_mono (ok' := fun k_ => (P0_ k_ ∨ w.heap.size ≤ k_) ∧ some k_ ≠ (.slice (some ad665) x5_1.length co12 : Value).ownBlock ∧ some k_ ≠ (u7 : Value).ownBlock) (Kd.S_N (Kd.S_bound ho0)) (fun k_ hk_ => ⟨(.inr (Nat.le_trans (below_size (bl_ HB.out)) hk_.2.1)), (Kd.fresh' (Kd.N_lt (by (with_reducible repeat (first | apply Kd.N_alloc | apply Kd.N_drewN | apply Kd.N_drew)); exact HO_5.out)) k_ hk_.2.1), (Kd.fresh' (Kd.N_lt (by (with_reducible repeat (first | apply Kd.N_alloc | apply Kd.N_drewN | apply Kd.N_drew)); exact HO_7.out)) k_ hk_.2.1)⟩)) (below_size (bl_ HB.out)))
           have n4_ := Aside0.mk (Kd.C_below (by repeat (first | (with_reducible exact HR665_0.out) | (with_reducible refine Kd.C_alloc ?_ _) | (with_reducible refine Kd.C_drewN ?_ _) | (with_reducible refine Kd.C_drew ?_) | exact HR665_0.out)) hb)
           have n5_ := Aside0.mk (below_step (bl_ HB.out) hb)
           clear HO_5 HO_7 HL665_0 HR665_0 HB
           have HO_5 := n0_
           have HO_7 := n1_
           have HL665_0 := n2_
           have HO670 := n3_
           have HR665_0 := n4_
           have HB := n5_
           clear n0_ n1_ n2_ n3_ n4_ n5_
           (try clear hb)
           (try clear hb2)
           (try clear hk)
           (try clear hi)
           (try clear ho0)
           refine hK.out _ _ ⟨HS0_, ((HB.out.cell (World.block_lt_of_cell? w _ hw666_0)).trans hw666_0)⟩ (fun hHeld => ?_)
           clear hK K
           refine norm_ (a' := ?_) ?_ ?_
           rotate_left
           ·
            show Act.put _ (some 34) _ = _
            simp only [Act.put, List.setIfInBounds_toArray, List.set_cons_zero, List.set_cons_succ, i64_w, i32_w]
            rfl
           refine pure_ (i := 9) (N := some 25) (v := ?_) (a' := ?_) #[true, true, true, true, true, true, true, true, true, true, false, false, false, false] rfl rfl (any_of HT_.out (by kernel_rfl)) (fun _ _ _ h => h) (Or.inl ⟨by rfl, ?_⟩) ?_ ?_
           rotate_left
           ·
            intro w'
            go_simp
            with_reducible rfl
           rotate_left
           ·
            simp only [Act.put, List.setIfInBounds_toArray, List.set_cons_zero, List.set_cons_succ, i64_w, i32_w]
            rfl
           refine pure_ (i := 10) (N := some 35) (v := ?_) (a' := ?_) #[true, true, true, true, true, true, true, true, true, true, true, false, false, false] rfl rfl (any_of HT_.out (by kernel_rfl)) (fun _ _ _ h => h) (Or.inl ⟨by rfl, ?_⟩) ?_ ?_
           rotate_left
           ·
            intro w'
            go_simp
            with_reducible rfl
           rotate_left
           ·
            simp only [Act.put, List.setIfInBounds_toArray, List.set_cons_zero, List.set_cons_succ, i64_w, i32_w]
            rfl
           refine pure_ (i := 11) (N := some 36) (v := ?_) (a' := ?_) #[true, true, true, true, true, true, true, true, true, true, true, true, false, false] rfl rfl (any_of HT_.out (by kernel_rfl)) (fun _ _ _ h => h) (Or.inl ⟨by rfl, ?_⟩) ?_ ?_
           rotate_left
           ·
            intro w'
            go_simp
            with_reducible rfl
           rotate_left
           ·
            simp only [Act.put, List.setIfInBounds_toArray, List.set_cons_zero, List.set_cons_succ, i64_w, i32_w]
            rfl
           refine pure_ (i := 12) (N := some 9) (v := ?_) (a' := ?_) #[true, true, true, true, true, true, true, true, true, true, true, true, true, false] rfl rfl (any_of HT_.out (by kernel_rfl)) (fun _ _ _ h => h) (Or.inl ⟨by rfl, ?_⟩) ?_ ?_
           rotate_left
           ·
            intro w'
            go_simp
            with_reducible rfl
           rotate_left
           ·
            simp only [Act.put, List.setIfInBounds_toArray, List.set_cons_zero, List.set_cons_succ, i64_w, i32_w]
            rfl
           refine pure_ (i := 13) (N := some 10) (v := ?_) (a' := ?_) #[true, true, true, true, true, true, true, true, true, true, true, true, true, true] rfl rfl (any_of HT_.out (by kernel_rfl)) (fun _ _ _ h => h) (Or.inl ⟨by rfl, ?_⟩) ?_ ?_
           rotate_left
           ·
            intro w'
            go_simp
            with_reducible rfl
           rotate_left
           ·
            simp only [Act.put, List.setIfInBounds_toArray, List.set_cons_zero, List.set_cons_succ, i64_w, i32_w]
            rfl
           refine done_ (done_of HT_.out (by kernel_rfl)) ?_
           obtain ⟨Ao16, co16, eo16⟩ := Kd.N_slice HO670.out
           subst eo16
           try go_wp2_with (first | ((with_reducible refine gate_builtin (b := .append) (xs := #[.tmp 37, .tmp 38]) rfl ?_); at_builtin; refine Kd.N_append_rows (Kd.slice 27 k27) (w0 := w) w.heap.size rfl (.tmp 37) (.tmp 38) 95 38 (.slice none 0 0) 24 rfl Try.underlying95 info38 rfl (by decide) (by omega) u7 x7_2 t667 _ _ _ (fun k_ => (P0_ k_ ∨ w.heap.size ≤ k_) ∧ some k_ ≠ (.slice (some ad665) x5_1.length co12 : Value).ownBlock) (fun k_ => ((fun k_ => (P0_ k_ ∨ w.heap.size ≤ k_) ∧ some k_ ≠ (.slice (some ad665) x5_1.length co12 : Value).ownBlock)) k_ ∧ some k_ ≠ (u7 : Value).ownBlock) rfl rfl ?aO ?aR (fun _ hk => hk) ?aF ?aB ?aS ?aL ?_; (case aR => exact (by skip; exact Kd.N_F (Kd.N_mono (ok' := (fun k_ => ((fun k_ => (P0_ k_ ∨ w.heap.size ≤ k_) ∧ some k_ ≠ (.slice (some ad665) x5_1.length co12 : Value).ownBlock)) k_ ∧ some k_ ≠ (u7 : Value).ownBlock)) (HO670.out) (fun k_ hk => ⟨⟨hk.1, hk.2.1⟩, hk.2.2⟩)))); (case aB => exact (bl_ HB.out)); (case aF => exact (fun k_ hk => ⟨(.inr (Nat.le_trans (below_size (bl_ HB.out)) hk)), Kd.fresh' (Kd.N_lt (by (with_reducible repeat (first | apply Kd.N_alloc | apply Kd.N_drewN | apply Kd.N_drew)); exact HO_5.out)) k_ hk⟩)); (case aO => exact (by (with_reducible repeat (first | apply Kd.N_alloc | apply Kd.N_drewN | apply Kd.N_drew)); exact Kd.N_mono HO_7.out (fun _ hk => ⟨hk.1.1, hk.1.2⟩))); (case aS => exact (below_size (bl_ HB.out))); (case aL => have := LMc11.out; omega); intro v672 w15 ho hb hg hat; rw [← Ny671.out] at ho; have n0_ := Aside0.mk (Kd.N_afterv (ok := (fun k_ => (P0_ k_ ∨ w.heap.size ≤ k_) ∧ some k_ ≠ (.slice Ao16 t667.length co16 : Value).ownBlock)) (by (with_reducible repeat (first | apply Kd.N_alloc | apply Kd.N_drewN | apply Kd.N_drew)); exact Kd.N_mono HO_5.out (fun _ hk => ⟨⟨hk.1.1, hk.2⟩, hk.1.2⟩)) hg hat); have n1_ := Aside0.mk (Kd.V_afterv (ok := (fun k_ => (P0_ k_ ∨ w.heap.size ≤ k_) ∧ some k_ ≠ (.slice (some ad665) x5_1.length co12 : Value).ownBlock ∧ some k_ ≠ (.slice Ao16 t667.length co16 : Value).ownBlock)) (by (with_reducible repeat (first | apply Kd.V_alloc | apply Kd.V_drewN | apply Kd.V_drew)); exact Kd.V_mono HL665_0.out (fun _ hk => ⟨⟨hk.1.1.1, ⟨hk.1.2, hk.2⟩⟩, hk.1.1.2⟩)) hg hat); have n2_ := Aside0.mk (Kd.N_afterv (ok := (fun k_ => (P0_ k_ ∨ w.heap.size ≤ k_) ∧ some k_ ≠ (.slice (some ad665) x5_1.length co12 : Value).ownBlock)) (by (with_reducible repeat (first | apply Kd.N_alloc | apply Kd.N_drewN | apply Kd.N_drew)); exact Kd.N_mono HO670.out (fun _ hk => ⟨⟨hk.1, hk.2.1⟩, hk.2.2⟩)) hg hat); have n3_ := Aside0.mk (hb); have n4_ := Aside0.mk (ho); clear HO_5 HL665_0 HO670 HB HO_7; have HO_5 := n0_; have HL665_0 := n1_; have HO670 := n2_; have HB := n3_; have HO673 := n4_; clear n0_ n1_ n2_ n3_ n4_ ho hb hg hat))
           go_roundg k2
           case measure => have := HK1.out; have := HK2.out; omega
           case rel => exact ⟨(y671), (wrap64 (x8_2 + 1)), (by first | rfl | (simp; done) | (simp [*]; done)), H', ⟨by have := HK1.out; have := HK2.out; omega⟩, ⟨by (with_reducible repeat (first | apply Kd.N_alloc | apply Kd.N_drewN | apply Kd.N_drew)); exact Kd.N_mono HO_5.out (fun _ hk => ⟨hk.1.1, hk.2⟩)⟩, ⟨by (with_reducible repeat (first | apply Kd.N_alloc | apply Kd.N_drewN | apply Kd.N_drew)); exact HO673.out⟩, ⟨bl_ HB.out⟩⟩
          ·
           rw [if_neg c11] at H
           exact absurd H (by simp)
         ·
          rw [if_neg c9] at H
          exact absurd H (by simp)
        ·
         rw [if_neg c8] at H
         exact absurd H (by simp)
       ·
        rw [if_neg c7] at H
        exact absurd H (by simp)
      ·
       rw [if_neg c6] at H
       have c6b0 : decide (x8_2 < (x5_1.length : Int)) = false := decide_eq_false c6
       clear c6
       have H' := Aside0.mk H
       clear H
       obtain ⟨Ao17, co17, eo17⟩ := Kd.N_slice HO_5.out
       subst eo17
       go_wp2
       go_roundg k2
       case measure => have := HK1.out; have := HK2.out; omega
       case rel => exact ⟨(x7_2), (wrap64 (x6_1 + 1)), (by first | rfl | (simp; done) | (simp [*]; done)), H', ⟨by have := HK1.out; have := HK2.out; omega⟩, ⟨by (with_reducible repeat (first | apply Kd.N_alloc | apply Kd.N_drewN | apply Kd.N_drew)); exact Kd.N_mono HO_7.out (fun _ hk => hk.1)⟩, ⟨bl_ HB.out⟩⟩
   ·
    rw [if_neg c5] at H
    have c5b0 : decide (x6_1 < (l1.length : Int)) = false := decide_eq_false c5
    clear c5
    obtain rfl := Option.some.inj H
    go_wp2
    go_ret
    exact ⟨_, by first | rfl | (simp [errW_none, errW_some] <;> rfl) | (simp [*, errW_none, errW_some] <;> rfl), by (with_reducible repeat (first | apply Kd.N_alloc | apply Kd.N_drewN | apply Kd.N_drew)); exact HO_5.out, bl_ HB.out⟩
end Go.Proofs.Yteodlmgmmpkpoaa.PS
end
section
namespace Go.Proofs.Yteodlmgmmpkpoaa.PS
open Go.RowKit Go.Proofs.YteodlmgmmpkpoaaW.PrintWords Go.Proofs.YteodlmgmmpkpoaaW.PrintLast Go.Proofs.YteodlmgmmpkpoaaW.PrintMore
attribute [local go_sem] max2_int min2_int max_two min_two max_three min_three max_four min_four   -- for this text's walks alone
set_option linter.unusedVariables false
set_option linter.unusedSimpArgs false
mutual
def swashplateref01_checkList.l0 : Nat → List (List (S27)) → Int → Int → Option (Int)
 | 0, _, _, _ => none
 | k + 1, x0, x1, x5 => if x5 < (x0.length : Int) then (if 0 ≤ x5 then ((swashplateref01_Check.f k (rd_L2 x0 x5)).bind fun t701 => (if t701 = 0 then (swashplateref01_checkList.l0 k x0 x1 (wrap64 (x5 + 1))) else (some 10))) else (none)) else (swashplateref01_checkList.l1 k x0 x1 0)
def swashplateref01_checkList.l1 : Nat → List (List (S27)) → Int → Int → Option (Int)
 | 0, _, _, _ => none
 | k + 1, x0, x1, x6 => if x6 < (x0.length : Int) then (if x1 < 0 then (if 0 < (x0.length : Int) then (if 0 ≤ x6 then (if ((rd_L2 x0 x6).length : Int) = ((rd_L2 x0 0).length : Int) then (swashplateref01_checkList.l1 k x0 ((rd_L2 x0 0).length : Int) (wrap64 (x6 + 1))) else (some 1)) else (none)) else (none)) else (if 0 ≤ x6 then (if ((rd_L2 x0 x6).length : Int) = x1 then (swashplateref01_checkList.l1 k x0 x1 (wrap64 (x6 + 1))) else (some 1)) else (none))) else (some 0)
end
def swashplateref01_checkList.f (k : Nat) (l0 : List (List (S27))) (a1 : Int) : Option (Int) := if (l0.length : Int) > 20 then (some 2) else (swashplateref01_checkList.l0 k l0 a1 0)
set_option maxHeartbeats 8000000 in
set_option maxRecDepth 100000 in
theorem swashplateref01_checkList.calls (k : Nat) (A0 : Option Addr) (c0 : Nat) (l0 : List (List (S27))) (a1 : Int) (r : Int) (w : World) (hr0 : Kd.C (Kd.slice 27 k27) w A0 l0.length l0) (hc0 : l0.length ≤ c0) (h : swashplateref01_checkList.f k l0 a1 = some r) :
  Calls Try.prog 125 #[.slice A0 l0.length c0, .int .i64 a1] w fun e w' => e = .returned (.int .i64 r) ∧ Below w.heap.size w w' := by
 have HR0 := Aside0.mk hr0
 have HC0 := Aside0.mk hc0
 clear hr0 hc0
 have HB := Aside0.mk (Below.refl w.heap.size w)
 have H : (if (l0.length : Int) > 20 then (some 2) else (swashplateref01_checkList.l0 k l0 a1 0)) = some r := h
 clear h
 by_cases c3 : (l0.length : Int) > 20
 ·
  rw [if_pos c3] at H
  have c3b0 : decide (20 < (l0.length : Int)) = true := decide_eq_true c3
  have c3b1 : decide (20 < l0.length) = true := decide_eq_true (by omega)
  clear c3
  obtain rfl := Option.some.inj H
  go_enter Try.func125, Try.ntmps125
  go_wp2
  go_ret
  exact ⟨by first | rfl | (simp [errW_none, errW_some] <;> rfl) | (simp [*, errW_none, errW_some] <;> rfl), bl_ HB.out⟩
 ·
  rw [if_neg c3] at H
  have c3b0 : decide (20 < (l0.length : Int)) = false := decide_eq_false c3
  have c3b1 : decide (20 < l0.length) = false := decide_eq_false (by omega)
  clear c3
  have H' := Aside0.mk H
  clear H
  go_enter Try.func125, Try.ntmps125
  go_wp2
  go_loopg [5] k (fun kq v5 w' => ∃ (x5_1 : Int), v5 = .int .i64 x5_1 ∧ Aside0 (swashplateref01_checkList.l0 kq l0 a1 x5_1 = some r) ∧ Aside0 (kq ≤ k) ∧ Aside0 (Below w.heap.size w w'))
  case atStart => exact ⟨(0), (by first | rfl | (simp; done) | (simp [*]; done)), H', ⟨Nat.le_refl _⟩, ⟨bl_ HB.out⟩⟩
  case round =>
   clear H'
   try clear c1
   try clear p2
   try clear c3
   try clear c3b0
   try clear c3b1
   obtain ⟨x5_1, rfl, HA, HK1, HB⟩ := hrel
   cases gk with
   | zero => exact absurd HA.out (by simp [swashplateref01_checkList.l0])
   | succ k1 =>
    have H := HA.out
    clear HA
    simp only [swashplateref01_checkList.l0] at H
    by_cases c4 : x5_1 < (l0.length : Int)
    ·
     rw [if_pos c4] at H
     have c4b0 : decide (x5_1 < (l0.length : Int)) = true := decide_eq_true c4
     clear c4
     by_cases c5 : 0 ≤ x5_1
     ·
      rw [if_pos c5] at H
      have c5b0 : decide (0 ≤ x5_1) = true := decide_eq_true c5
      clear c5
      replace H := Option.bind_eq_some_iff.mp H
      obtain ⟨t701, A60, H⟩ := H
      replace H : (if t701 = 0 then (swashplateref01_checkList.l0 k1 l0 a1 (wrap64 (x5_1 + 1))) else (some 10)) = some r := H
      have A6 := Aside0.mk A60
      clear A60
      by_cases c7 : t701 = 0
      ·
       rw [if_pos c7] at H
       have c7b0 : (t701 == 0) = true := beq_iff_eq.mpr c7
       have c7b1 : (t701 != 0) = false := bne_eq_false_iff_eq.mpr c7
       clear c7
       have H' := Aside0.mk H
       clear H
       have p700 : 0 ≤ (x5_1 : Int) := of_decide_eq_true (by first | (with_reducible assumption) | assumption)
       have q700 : x5_1 < (l0.length : Int) := of_decide_eq_true (by first | (with_reducible assumption) | assumption)
       obtain ⟨ad700, A700_0, c700_0, e700, hx700_0, hl700_0, hi700_0⟩ := at_L2 HR0.out x5_1 p700 q700
       cases e700
       replace hx700_0 := (HB.out.cell (World.block_lt_of_cell? w _ hx700_0)).trans hx700_0
       have HR700_0 := Aside0.mk hi700_0
       have HC700_0 := Aside0.mk hl700_0
       clear hi700_0 hl700_0
       replace p700 := eq_true p700
       replace q700 := eq_true q700
       go_wp2_with (first | ((with_reducible refine gate_callee (f := 28) rfl ?_); refine goesL_ (some 20) rfl rfl Try.func28 (by kernel_rfl) rfl #[.slice A700_0 (rd_L2 l0 x5_1).length c700_0] rfl (by (try simp only [List.map_toArray, List.map_cons, List.map_nil]); first | done | rfl | (simp only [List.length_drop, List.length_take]; rfl)) ?_; (with_reducible refine (swashplateref01_Check.calls k1 _ _ (rd_L2 l0 x5_1) t701 _ ?side1 ?side2 A6.out).mono ?_); (case side1 => exact cr_ (Kd.C_below HR700_0.out HB.out)); (case side2 => exact HC700_0.out); rintro e w8 ⟨rfl, hb⟩; refine ⟨_, rfl, ?_⟩; have n0_ := Aside0.mk (below_step (bl_ HB.out) hb); clear HB; have HB := n0_; clear n0_; (try clear hb); (try clear hb2); (try clear hk); (try clear hi)))
       go_roundg k1
       case measure => have := HK1.out; omega
       case rel => exact ⟨(wrap64 (x5_1 + 1)), (by first | rfl | (simp; done) | (simp [*]; done)), H', ⟨by have := HK1.out; omega⟩, ⟨bl_ HB.out⟩⟩
      ·
       rw [if_neg c7] at H
       have c7b0 : (t701 == 0) = false := beq_eq_false_iff_ne.mpr c7
       have c7b1 : (t701 != 0) = true := bne_iff_ne.mpr c7
       obtain rfl := Option.some.inj H
       have p700 : 0 ≤ (x5_1 : Int) := of_decide_eq_true (by first | (with_reducible assumption) | assumption)
       have q700 : x5_1 < (l0.length : Int) := of_decide_eq_true (by first | (with_reducible assumption) | assumption)
       obtain ⟨ad700, A700_0, c700_0, e700, hx700_0, hl700_0, hi700_0⟩ := at_L2 HR0.out x5_1 p700 q700
       cases e700
       replace hx700_0 := (HB.out.cell (World.block_lt_of_cell? w _ hx700_0)).trans hx700_0
       have HR700_0 := Aside0.mk hi700_0
       have HC700_0 := Aside0.mk hl700_0
       clear hi700_0 hl700_0
       replace p700 := eq_true p700
       replace q700 := eq_true q700
       go_wp2_with (first | ((with_reducible refine gate_callee (f := 28) rfl ?_); refine goesL_ (some 20) rfl rfl Try.func28 (by kernel_rfl) rfl #[.slice A700_0 (rd_L2 l0 x5_1).length c700_0] rfl (by (try simp only [List.map_toArray, List.map_cons, List.map_nil]); first | done | rfl | (simp only [List.length_drop, List.length_take]; rfl)) ?_; (with_reducible refine (swashplateref01_Check.calls k1 _ _ (rd_L2 l0 x5_1) t701 _ ?side1 ?side2 A6.out).mono ?_); (case side1 => exact cr_ (Kd.C_below HR700_0.out HB.out)); (case side2 => exact HC700_0.out); rintro e w9 ⟨rfl, hb⟩; refine ⟨_, rfl, ?_⟩; have n0_ := Aside0.mk (below_step (bl_ HB.out) hb); clear HB; have HB := n0_; clear n0_; (try clear hb); (try clear hb2); (try clear hk); (try clear hi)))
       go_ret
       exact ⟨by first | rfl | (simp [errW_none, errW_some] <;> rfl) | (simp [*, errW_none, errW_some] <;> rfl), bl_ HB.out⟩
     ·
      rw [if_neg c5] at H
      exact absurd H (by simp)
    ·
     rw [if_neg c4] at H
     have c4b0 : decide (x5_1 < (l0.length : Int)) = false := decide_eq_false c4
     clear c4
     have H' := Aside0.mk H
     clear H
     go_wp2
     go_loopg [1, 6] k1 (fun kq v1 v6 w' => ∃ (x1_2 : Int) (x6_2 : Int), v1 = .int .i64 x1_2 ∧ v6 = .int .i64 x6_2 ∧ Aside0 (swashplateref01_checkList.l1 kq l0 x1_2 x6_2 = some r) ∧ Aside0 (kq ≤ k1) ∧ Aside0 (Below w.heap.size w w'))
     case atStart => exact ⟨(a1), (0), (by first | rfl | (simp; done) | (simp [*]; done)), (by first | rfl | (simp; done) | (simp [*]; done)), H', ⟨Nat.le_refl _⟩, ⟨bl_ HB.out⟩⟩
     case round =>
      clear H'
      try clear c1
      try clear c2
      try clear p2
      try clear c3
      try clear c3b0
      try clear c3b1
      try clear c4
      try clear c4b0
      try clear c5
      try clear c5b0
      try clear p6
      try clear c7
      try clear c7b0
      try clear c7b1
      try clear p7
      try clear q7
      try clear hx7
      try clear hx700_0
      try clear p2
      try clear p700
      try clear q700
      obtain ⟨x1_2, x6_2, rfl, rfl, HA, HK2, HB⟩ := hrel
      cases gk with
      | zero => exact absurd HA.out (by simp [swashplateref01_checkList.l1])
      | succ k2 =>
       have H := HA.out
       clear HA
       simp only [swashplateref01_checkList.l1] at H
       by_cases c10 : x6_2 < (l0.length : Int)
       ·
        rw [if_pos c10] at H
        have c10b0 : decide (x6_2 < (l0.length : Int)) = true := decide_eq_true c10
        clear c10
        by_cases c11 : x1_2 < 0
        ·
         rw [if_pos c11] at H
         have c11b0 : decide (x1_2 < 0) = true := decide_eq_true c11
         clear c11
         by_cases c12 : 0 < (l0.length : Int)
         ·
          rw [if_pos c12] at H
          have c12b0 : decide (0 < (l0.length : Int)) = true := decide_eq_true c12
          have c12b1 : decide (0 < l0.length) = true := decide_eq_true (by omega)
          clear c12
          by_cases c13 : 0 ≤ x6_2
          ·
           rw [if_pos c13] at H
           have c13b0 : decide (0 ≤ x6_2) = true := decide_eq_true c13
           clear c13
           by_cases c14 : ((rd_L2 l0 x6_2).length : Int) = ((rd_L2 l0 0).length : Int)
           ·
            rw [if_pos c14] at H
            have c14b0 : (((rd_L2 l0 x6_2).length : Int) == ((rd_L2 l0 0).length : Int)) = true := beq_iff_eq.mpr c14
            have c14b1 : (((rd_L2 l0 x6_2).length : Int) != ((rd_L2 l0 0).length : Int)) = false := bne_eq_false_iff_eq.mpr c14
            have c14b2 : ((rd_L2 l0 x6_2).length == (rd_L2 l0 0).length) = true := by first | simpa using c14 | (simp at c14 ⊢; omega)
            clear c14
            have H' := Aside0.mk H
            clear H
            have p702 : 0 ≤ (0 : Int) := (by omega)
            have q702 : 0 < (l0.length : Int) := of_decide_eq_true (by first | (with_reducible assumption) | assumption)
            obtain ⟨ad702, A702_0, c702_0, e702, hx702_0, hl702_0, hi702_0⟩ := at_L2 HR0.out 0 p702 q702
            cases e702
            have qi702 : (0 < l0.length) = True := eq_true (by omega)
            (try rw [show ((0 : Int)).toNat = 0 from rfl] at hx702_0)
            (try rw [Addr.add_zero'] at hx702_0)
            replace hx702_0 := (HB.out.cell (World.block_lt_of_cell? w _ hx702_0)).trans hx702_0
            have HR702_0 := Aside0.mk hi702_0
            have HC702_0 := Aside0.mk hl702_0
            clear hi702_0 hl702_0
            replace p702 := eq_true p702
            replace q702 := eq_true q702
            have p703 : 0 ≤ (x6_2 : Int) := of_decide_eq_true (by first | (with_reducible assumption) | assumption)
            have q703 : x6_2 < (l0.length : Int) := of_decide_eq_true (by first | (with_reducible assumption) | assumption)
            obtain ⟨ad703, A703_0, c703_0, e703, hx703_0, hl703_0, hi703_0⟩ := at_L2 HR0.out x6_2 p703 q703
            obtain rfl : ad702 = ad703 := (by injection e703)
            replace hx703_0 := (HB.out.cell (World.block_lt_of_cell? w _ hx703_0)).trans hx703_0
            have HR703_0 := Aside0.mk hi703_0
            have HC703_0 := Aside0.mk hl703_0
            clear hi703_0 hl703_0
            replace p703 := eq_true p703
            replace q703 := eq_true q703
            go_wp2
            go_roundg k2
            case measure => have := HK1.out; have := HK2.out; omega
            case rel => exact ⟨(((rd_L2 l0 0).length : Int)), (wrap64 (x6_2 + 1)), (by first | rfl | (simp; done) | (simp [*]; done)), (by first | rfl | (simp; done) | (simp [*]; done)), H', ⟨by have := HK1.out; have := HK2.out; omega⟩, ⟨bl_ HB.out⟩⟩
           ·
            rw [if_neg c14] at H
            have c14b0 : (((rd_L2 l0 x6_2).length : Int) == ((rd_L2 l0 0).length : Int)) = false := beq_eq_false_iff_ne.mpr c14
            have c14b1 : (((rd_L2 l0 x6_2).length : Int) != ((rd_L2 l0 0).length : Int)) = true := bne_iff_ne.mpr c14
            have c14b2 : ((rd_L2 l0 x6_2).length == (rd_L2 l0 0).length) = false := by first | simpa using c14 | (simp at c14 ⊢; omega)
            obtain rfl := Option.some.inj H
            have p702 : 0 ≤ (0 : Int) := (by omega)
            have q702 : 0 < (l0.length : Int) := of_decide_eq_true (by first | (with_reducible assumption) | assumption)
            obtain ⟨ad702, A702_0, c702_0, e702, hx702_0, hl702_0, hi702_0⟩ := at_L2 HR0.out 0 p702 q702
            cases e702
            have qi702 : (0 < l0.length) = True := eq_true (by omega)
            (try rw [show ((0 : Int)).toNat = 0 from rfl] at hx702_0)
            (try rw [Addr.add_zero'] at hx702_0)
            replace hx702_0 := (HB.out.cell (World.block_lt_of_cell? w _ hx702_0)).trans hx702_0
            have HR702_0 := Aside0.mk hi702_0
            have HC702_0 := Aside0.mk hl702_0
            clear hi702_0 hl702_0
            replace p702 := eq_true p702
            replace q702 := eq_true q702
            have p703 : 0 ≤ (x6_2 : Int) := of_decide_eq_true (by first | (with_reducible assumption) | assumption)
            have q703 : x6_2 < (l0.length : Int) := of_decide_eq_true (by first | (with_reducible assumption) | assumption)
            obtain ⟨ad703, A703_0, c703_0, e703, hx703_0, hl703_0, hi703_0⟩ := at_L2 HR0.out x6_2 p703 q703
            obtain rfl : ad702 = ad703 := (by injection e703)
            replace hx703_0 := (HB.out.cell (World.block_lt_of_cell? w _ hx703_0)).trans hx703_0
            have HR703_0 := Aside0.mk hi703_0
            have HC703_0 := Aside0.mk hl703_0
            clear hi703_0 hl703_0
            replace p703 := eq_true p703
            replace q703 := eq_true q703
            go_wp2
            go_ret
            exact ⟨by first | rfl | (simp [errW_none, errW_some] <;> rfl) | (simp [*, errW_none, errW_some] <;> rfl), bl_ HB.out⟩
          ·
           rw [if_neg c13] at H
           exact absurd H (by simp)
         ·
          rw [if_neg c12] at H
          exact absurd H (by simp)
        ·
         rw [if_neg c11] at H
         have c11b0 : decide (x1_2 < 0) = false := decide_eq_false c11
         clear c11
         by_cases c15 : 0 ≤ x6_2
         ·
          rw [if_pos c15] at H
          have c15b0 : decide (0 ≤ x6_2) = true := decide_eq_true c15
          clear c15
          by_cases c16 : ((rd_L2 l0 x6_2).length : Int) = x1_2
          ·
           rw [if_pos c16] at H
           have c16b0 : (((rd_L2 l0 x6_2).length : Int) == x1_2) = true := beq_iff_eq.mpr c16
           have c16b1 : (((rd_L2 l0 x6_2).length : Int) != x1_2) = false := bne_eq_false_iff_eq.mpr c16
           clear c16
           have H' := Aside0.mk H
           clear H
           have p704 : 0 ≤ (x6_2 : Int) := of_decide_eq_true (by first | (with_reducible assumption) | assumption)
           have q704 : x6_2 < (l0.length : Int) := of_decide_eq_true (by first | (with_reducible assumption) | assumption)
           obtain ⟨ad704, A704_0, c704_0, e704, hx704_0, hl704_0, hi704_0⟩ := at_L2 HR0.out x6_2 p704 q704
           cases e704
           replace hx704_0 := (HB.out.cell (World.block_lt_of_cell? w _ hx704_0)).trans hx704_0
           have HR704_0 := Aside0.mk hi704_0
           have HC704_0 := Aside0.mk hl704_0
           clear hi704_0 hl704_0
           replace p704 := eq_true p704
           replace q704 := eq_true q704
           go_wp2
           go_roundg k2
           case measure => have := HK1.out; have := HK2.out; omega
           case rel => exact ⟨(x1_2), (wrap64 (x6_2 + 1)), (by first | rfl | (simp; done) | (simp [*]; done)), (by first | rfl | (simp; done) | (simp [*]; done)), H', ⟨by have := HK1.out; have := HK2.out; omega⟩, ⟨bl_ HB.out⟩⟩
          ·
           rw [if_neg c16] at H
           have c16b0 : (((rd_L2 l0 x6_2).length : Int) == x1_2) = false := beq_eq_false_iff_ne.mpr c16
           have c16b1 : (((rd_L2 l0 x6_2).length : Int) != x1_2) = true := bne_iff_ne.mpr c16
           obtain rfl := Option.some.inj H
           have p704 : 0 ≤ (x6_2 : Int) := of_decide_eq_true (by first | (with_reducible assumption) | assumption)
           have q704 : x6_2 < (l0.length : Int) := of_decide_eq_true (by first | (with_reducible assumption) | assumption)
           obtain ⟨ad704, A704_0, c704_0, e704, hx704_0, hl704_0, hi704_0⟩ := at_L2 HR0.out x6_2 p704 q704
           cases e704
           replace hx704_0 := (HB.out.cell (World.block_lt_of_cell? w _ hx704_0)).trans hx704_0
           have HR704_0 := Aside0.mk hi704_0
           have HC704_0 := Aside0.mk hl704_0
           clear hi704_0 hl704_0
           replace p704 := eq_true p704
           replace q704 := eq_true q704
           go_wp2
           go_ret
           exact ⟨by first | rfl | (simp [errW_none, errW_some] <;> rfl) | (simp [*, errW_none, errW_some] <;> rfl), bl_ HB.out⟩
         ·
          rw [if_neg c15] at H
          exact absurd H (by simp)
       ·
        rw [if_neg c10] at H
        have c10b0 : decide (x6_2 < (l0.length : Int)) = false := decide_eq_false c10
        clear c10
        obtain rfl := Option.some.inj H
        go_wp2
        go_ret
        exact ⟨by first | rfl | (simp [errW_none, errW_some] <;> rfl) | (simp [*, errW_none, errW_some] <;> rfl), bl_ HB.out⟩
end Go.Proofs.Yteodlmgmmpkpoaa.PS
end
section
namespace Go.Proofs.Yteodlmgmmpkpoaa.PS
open Go.RowKit Go.Proofs.YteodlmgmmpkpoaaW.PrintWords Go.Proofs.YteodlmgmmpkpoaaW.PrintLast Go.Proofs.YteodlmgmmpkpoaaW.PrintMore
attribute [local go_sem] max2_int min2_int max_two min_two max_three min_three max_four min_four   -- for this text's walks alone
set_option linter.unusedVariables false
set_option linter.unusedSimpArgs false
def swashplateref01_CopyBoxes.l0 : Nat → List (List (S27)) → List (List (S27)) → Int → Option ((List (List (S27))))
 | 0, _, _, _ => none
 | k + 1, x0, x3, x4 => if x4 < (x0.length : Int) then ((some (([] : List (S27)) : List (S27))).bind fun y690 => (if 0 ≤ x4 then (if y690.length + (rd_L2 x0 x4).length < 8796093022208 then (if x3.length < 5864062014805 then (swashplateref01_CopyBoxes.l0 k x0 (x3 ++ [(y690 ++ (rd_L2 x0 x4))]) (wrap64 (x4 + 1))) else (none)) else (none)) else (none))) else (some x3)
def swashplateref01_CopyBoxes.f (k : Nat) (l0 : List (List (S27))) : Option ((List (List (S27)))) := swashplateref01_CopyBoxes.l0 k l0 ([] : List (List (S27))) 0
set_option maxHeartbeats 8000000 in
set_option maxRecDepth 100000 in
theorem swashplateref01_CopyBoxes.calls (k : Nat) (A0 : Option Addr) (c0 : Nat) (l0 : List (List (S27))) (r : List (List (S27))) (w : World) (hr0 : Kd.C (Kd.slice 27 k27) w A0 l0.length l0) (hc0 : l0.length ≤ c0) (h : swashplateref01_CopyBoxes.f k l0 = some r) :
  Calls Try.prog 66 #[.slice A0 l0.length c0] w fun e w' => ∃ v0_ : Value, e = .returned (v0_) ∧ Kd.S (Kd.slice 27 k27) 38 w' w.heap.size (fun _ => True) v0_ r ∧ Below w.heap.size w w' := by
 have HR0 := Aside0.mk hr0
 have HC0 := Aside0.mk hc0
 clear hr0 hc0
 have HB := Aside0.mk (Below.refl w.heap.size w)
 have H : (swashplateref01_CopyBoxes.l0 k l0 ([] : List (List (S27))) 0) = some r := h
 clear h
 have H' := Aside0.mk H
 clear H
 go_enter Try.func66, Try.ntmps66
 go_wp2
 go_loopg [3, 4] k (fun kq v3 v4 w' => ∃ (x3_1 : List (List (S27))) (x4_1 : Int), v4 = .int .i64 x4_1 ∧ Aside0 (swashplateref01_CopyBoxes.l0 kq l0 x3_1 x4_1 = some r) ∧ Aside0 (kq ≤ k) ∧ Aside0 (Kd.S (Kd.slice 27 k27) 38 w' w.heap.size (fun _ => True) v3 x3_1) ∧ Aside0 (Below w.heap.size w w'))
 case atStart => exact ⟨(([] : List (List (S27)))), (0), (by first | rfl | (simp; done) | (simp [*]; done)), H', ⟨Nat.le_refl _⟩, ⟨by first | exact Kd.S_nil _ _ _ _ _ | exact Kd.N_nil _ _ _ _ _ | exact Kd.V_nil _ _ _ _ _ | exact Kd.Q_nil _ _ _ _ _ | exact Kd.R_nil _ _ _ _ _⟩, ⟨bl_ HB.out⟩⟩
 case round =>
  clear H'
  obtain ⟨x3_1, x4_1, rfl, HA, HK1, HO_3, HB⟩ := hrel
  cases gk with
  | zero => exact absurd HA.out (by simp [swashplateref01_CopyBoxes.l0])
  | succ k1 =>
   have H := HA.out
   clear HA
   simp only [swashplateref01_CopyBoxes.l0] at H
   by_cases c2 : x4_1 < (l0.length : Int)
   ·
    rw [if_pos c2] at H
    have c2b0 : decide (x4_1 < (l0.length : Int)) = true := decide_eq_true c2
    clear c2
    obtain ⟨y690, hy690⟩ : ∃ y_ : List (S27), y_ = (([] : List (S27))) := ⟨_, rfl⟩
    replace H : (if 0 ≤ x4_1 then (if y690.length + (rd_L2 l0 x4_1).length < 8796093022208 then (if x3_1.length < 5864062014805 then (swashplateref01_CopyBoxes.l0 k1 l0 (x3_1 ++ [(y690 ++ (rd_L2 l0 x4_1))]) (wrap64 (x4_1 + 1))) else (none)) else (none)) else (none)) = some r := by first | (rw [hy690]; with_reducible exact H) | (have H2_ := (Option.bind_some _ _).symm.trans H; rw [hy690]; with_reducible exact H2_) | (have H2_ := (Option.bind_some _ _).symm.trans H; with_reducible exact H2_) | with_reducible exact H | (rw [hy690]; exact H) | exact H
    have Ny690 := Aside0.mk hy690
    clear hy690
    by_cases c3 : 0 ≤ x4_1
    ·
     rw [if_pos c3] at H
     have c3b0 : decide (0 ≤ x4_1) = true := decide_eq_true c3
     clear c3
     by_cases c4 : y690.length + (rd_L2 l0 x4_1).length < 8796093022208
     ·
      rw [if_pos c4] at H
      have LMc4 := Aside0.mk c4
      clear c4
      obtain ⟨y694, hy694⟩ : ∃ y_ : List (S27), y_ = (y690 ++ (rd_L2 l0 x4_1)) := ⟨_, rfl⟩
      replace H : (if x3_1.length < 5864062014805 then (swashplateref01_CopyBoxes.l0 k1 l0 (x3_1 ++ [y694]) (wrap64 (x4_1 + 1))) else (none)) = some r := by first | (rw [hy694]; with_reducible exact H) | (have H2_ := (Option.bind_some _ _).symm.trans H; rw [hy694]; with_reducible exact H2_) | (have H2_ := (Option.bind_some _ _).symm.trans H; with_reducible exact H2_) | with_reducible exact H | (rw [hy694]; exact H) | exact H
      have Ny694 := Aside0.mk hy694
      clear hy694
      by_cases c5 : x3_1.length < 5864062014805
      ·
       rw [if_pos c5] at H
       have LMc5 := Aside0.mk c5
       clear c5
       obtain ⟨y697, hy697⟩ : ∃ y_ : List (List (S27)), y_ = (x3_1 ++ [y694]) := ⟨_, rfl⟩
       replace H : (swashplateref01_CopyBoxes.l0 k1 l0 y697 (wrap64 (x4_1 + 1))) = some r := by first | (rw [hy697]; with_reducible exact H) | (have H2_ := (Option.bind_some _ _).symm.trans H; rw [hy697]; with_reducible exact H2_) | (have H2_ := (Option.bind_some _ _).symm.trans H; with_reducible exact H2_) | with_reducible exact H | (rw [hy697]; exact H) | exact H
       have Ny697 := Aside0.mk hy697
       clear hy697
       have H' := Aside0.mk H
       clear H
       go_wp2_with (first | ((with_reducible refine gate_dst (N := 12) rfl ?_); refine Kd.R_lit k27 _ 27 ?hg (N := 12) ?hd (xs := ([] : List (S27))) (inner := []) (ok := fun _ => True) (okp := fun _ => True) ?hr ?hp (fun _ hk => hk) trivial (Below.refl _ _) (Nat.le_refl _) (by simp) ?_; (case hd => rfl); (case hg => rfl); (case hr => first | (go_simp; done) | (go_simp; rfl)); (case hp => exact (Reps.none _ _)); intro v691 w6 ho7 hb hg_ hnew_; clear hg_ hnew_; (first | rw [← Ny690.out] at ho7 | (simp only [Int.reduceToNat] at ho7; rw [← Ny690.out] at ho7)); have n0_ := Aside0.mk (Kd.S_elder' (by (with_reducible repeat (first | apply Kd.S_alloc | apply Kd.S_drewN | apply Kd.S_drew)); exact HO_3.out) (Kd.R_base ho7) hb); have n1_ := Aside0.mk (Kd.R_lower ho7 (below_size (bl_ HB.out))); have n2_ := Aside0.mk (below_step (bl_ HB.out) hb); clear HO_3 HB; have HO_3 := n0_; have HO692 := n1_; have HB := n2_; clear n0_ n1_ n2_ hb ho7; have p693 : 0 ≤ (x4_1 : Int) := of_decide_eq_true (by first | (with_reducible assumption) | assumption); have q693 : x4_1 < (l0.length : Int) := of_decide_eq_true (by first | (with_reducible assumption) | assumption); obtain ⟨ad693, A693_0, c693_0, e693, hx693_0, hl693_0, hi693_0⟩ := at_L2 HR0.out x4_1 p693 q693; cases e693; replace hx693_0 := (HB.out.cell (World.block_lt_of_cell? w _ hx693_0)).trans hx693_0; have HR693_0 := Aside0.mk hi693_0; have HC693_0 := Aside0.mk hl693_0; clear hi693_0 hl693_0; replace p693 := eq_true p693; replace q693 := eq_true q693) | ((with_reducible refine gate_builtin (b := .append) (xs := #[.tmp 12, .tmp 16]) rfl ?_); at_builtin; refine Kd.R_append_rows k27 (w0 := w) w.heap.size rfl (.tmp 12) (.tmp 16) 38 27 (.agg #[(.int .i64 0), (.int .i64 0)]) 16 rfl Try.underlying38 info27 rfl (by decide) (by omega) v691 y690 (rd_L2 l0 x4_1) _ _ _ (fun _ => True) (fun _ => False) rfl rfl ?aO ?aR (fun _ _ h => h) (fun _ h => h.elim) ?aF ?aB ?aS ?aL ?_; (case aR => exact cr_ (Kd.C_below HR693_0.out HB.out)); (case aB => exact (bl_ HB.out)); (case aF => exact (fun _ _ => trivial)); (case aO => exact (by (with_reducible repeat (first | apply Kd.R_alloc | apply Kd.R_drewN | apply Kd.R_drew)); exact HO692.out)); (case aS => exact (below_size (bl_ HB.out))); (case aL => have := LMc4.out; omega); intro v695 w8 ho hb hg hat; rw [← Ny694.out] at ho; have n0_ := Aside0.mk (Kd.S_after (ok := (fun _ => True)) (by (with_reducible repeat (first | apply Kd.S_alloc | apply Kd.S_drewN | apply Kd.S_drew)); exact HO_3.out) hg hat); have n1_ := Aside0.mk (hb); have n2_ := Aside0.mk (ho); clear HO_3 HB HO692; have HO_3 := n0_; have HB := n1_; have HO696 := n2_; clear n0_ n1_ n2_ ho hb hg hat; obtain ⟨Ao10, co10, eo10⟩ := Kd.R_slice HO696.out; subst eo10) | ((with_reducible refine gate_builtin (b := .append) (xs := #[.tmp 11, .tmp 18]) rfl ?_); at_builtin; refine Kd.S_append (Kd.slice 27 k27) (w0 := w) w.heap.size rfl (.tmp 11) (.tmp 18) 95 38 (.slice none 0 0) 24 rfl Try.underlying95 info38 rfl (by decide) (by omega) u3 x3_1 y694 [.slice Ao10 y694.length co10] (fun _ => True) (fun k_ => some k_ = (.slice Ao10 y694.length co10 : Value).ownBlock) rfl rfl ?aP (fun k_ hk_ => ((Kd.R_mono (ok' := fun k_ => ((fun _ => True)) k_ ∧ some k_ ≠ (u3 : Value).ownBlock) (Kd.R_apart' (HO696.out) (Kd.S_typed HO_3.out) (by decide)) (fun k_ hk => ⟨trivial, hk.2⟩))).1 k_ hk_.symm) ?aF ?aO ?aB ?aS ?aL ?_; (case aP => exact Kd.M_row (Kd.R_mono (Kd.R_tight rfl (Kd.R_mono (ok' := fun k_ => ((fun _ => True)) k_ ∧ some k_ ≠ (u3 : Value).ownBlock) (Kd.R_apart' (HO696.out) (Kd.S_typed HO_3.out) (by decide)) (fun k_ hk => ⟨trivial, hk.2⟩))) (fun _ h_ => h_))); (case aB => exact (bl_ HB.out)); (case aF => exact (fun _ _ => trivial)); (case aO => exact (by (with_reducible repeat (first | apply Kd.S_alloc | apply Kd.S_drewN | apply Kd.S_drew)); exact Kd.S_mono HO_3.out (fun k_ hk => ⟨trivial, fun e_ => hk.2 e_⟩))); (case aS => exact (below_size (bl_ HB.out))); (case aL => have := LMc5.out; omega); intro v698 w9 ho hb hg hat; rw [← Ny697.out] at ho; have n0_ := Aside0.mk (hb); have n1_ := Aside0.mk (ho); clear HB HO_3 HO696; have HB := n0_; have HO699 := n1_; clear n0_ n1_ ho hb hg hat))
       go_roundg k1
       case measure => have := HK1.out; omega
       case rel => exact ⟨(y697), (wrap64 (x4_1 + 1)), (by first | rfl | (simp; done) | (simp [*]; done)), H', ⟨by have := HK1.out; omega⟩, ⟨by (with_reducible repeat (first | apply Kd.S_alloc | apply Kd.S_drewN | apply Kd.S_drew)); exact HO699.out⟩, ⟨bl_ HB.out⟩⟩
      ·
       rw [if_neg c5] at H
       exact absurd H (by simp)
     ·
      rw [if_neg c4] at H
      exact absurd H (by simp)
    ·
     rw [if_neg c3] at H
     exact absurd H (by simp)
   ·
    rw [if_neg c2] at H
    have c2b0 : decide (x4_1 < (l0.length : Int)) = false := decide_eq_false c2
    clear c2
    obtain rfl := Option.some.inj H
    go_wp2
    go_ret
    exact ⟨_, by first | rfl | (simp [errW_none, errW_some] <;> rfl) | (simp [*, errW_none, errW_some] <;> rfl), by (with_reducible repeat (first | apply Kd.S_alloc | apply Kd.S_drewN | apply Kd.S_drew)); exact HO_3.out, bl_ HB.out⟩
end Go.Proofs.Yteodlmgmmpkpoaa.PS
end
section
namespace Go.Proofs.Yteodlmgmmpkpoaa.PS
open Go.RowKit Go.Proofs.YteodlmgmmpkpoaaW.PrintWords Go.Proofs.YteodlmgmmpkpoaaW.PrintLast Go.Proofs.YteodlmgmmpkpoaaW.PrintMore
attribute [local go_sem] max2_int min2_int max_two min_two max_three min_three max_four min_four   -- for this text's walks alone
set_option linter.unusedVariables false
set_option linter.unusedSimpArgs false
def swashplatelaw01_farBoxes.l0 : Nat → List (List (S27)) → Int → Option (Bool)
 | 0, _, _ => none
 | k + 1, x0, x3 => if x3 < (x0.length : Int) then (if 0 ≤ x3 then (if ((rd_L2 x0 x3).length : Int) > 6 then (some true) else (swashplatelaw01_farBoxes.l0 k x0 (wrap64 (x3 + 1)))) else (none)) else (some false)
def swashplatelaw01_farBoxes.f (k : Nat) (l0 : List (List (S27))) : Option (Bool) := if (l0.length : Int) > 25 then (some true) else (swashplatelaw01_farBoxes.l0 k l0 0)
set_option maxHeartbeats 8000000 in
set_option maxRecDepth 100000 in
theorem swashplatelaw01_farBoxes.calls (k : Nat) (A0 : Option Addr) (c0 : Nat) (l0 : List (List (S27))) (r : Bool) (w : World) (hr0 : Kd.C (Kd.slice 27 k27) w A0 l0.length l0) (hc0 : l0.length ≤ c0) (h : swashplatelaw01_farBoxes.f k l0 = some r) :
  Calls Try.prog 64 #[.slice A0 l0.length c0] w fun e w' => e = .returned (.bool r) ∧ Drawn0 w w' := by
 have HR0 := Aside0.mk hr0
 have HC0 := Aside0.mk hc0
 clear hr0 hc0
 have H : (if (l0.length : Int) > 25 then (some true) else (swashplatelaw01_farBoxes.l0 k l0 0)) = some r := h
 clear h
 by_cases c2 : (l0.length : Int) > 25
 ·
  rw [if_pos c2] at H
  have c2b0 : decide (25 < (l0.length : Int)) = true := decide_eq_true c2
  have c2b1 : decide (25 < l0.length) = true := decide_eq_true (by omega)
  clear c2
  obtain rfl := Option.some.inj H
  go_enter Try.func64, Try.ntmps64
  go_wp2
  go_ret
  exact ⟨by first | rfl | (simp; done) | (simp [*]; done), by repeat (first | exact Drawn0.refl _ | apply Drawn0.step)⟩
 ·
  rw [if_neg c2] at H
  have c2b0 : decide (25 < (l0.length : Int)) = false := decide_eq_false c2
  have c2b1 : decide (25 < l0.length) = false := decide_eq_false (by omega)
  clear c2
  have H' := Aside0.mk H
  clear H
  go_enter Try.func64, Try.ntmps64
  go_wp2
  go_loopg [3] k (fun kq v3 w' => ∃ (x3_1 : Int), v3 = .int .i64 x3_1 ∧ Aside0 (swashplatelaw01_farBoxes.l0 kq l0 x3_1 = some r) ∧ Aside0 (kq ≤ k) ∧ Drawn0 w w')
  case atStart => exact ⟨(0), (by first | rfl | (simp; done) | (simp [*]; done)), H', ⟨Nat.le_refl _⟩, by repeat (first | exact Drawn0.refl _ | apply Drawn0.step)⟩
  case round =>
   clear H'
   try clear c2
   try clear c2b0
   try clear c2b1
   try clear p2
   obtain ⟨x3_1, rfl, HA, HK1, ⟨m1, rfl⟩⟩ := hrel
   cases gk with
   | zero => exact absurd HA.out (by simp [swashplatelaw01_farBoxes.l0])
   | succ k1 =>
    have H := HA.out
    clear HA
    simp only [swashplatelaw01_farBoxes.l0] at H
    by_cases c3 : x3_1 < (l0.length : Int)
    ·
     rw [if_pos c3] at H
     have c3b0 : decide (x3_1 < (l0.length : Int)) = true := decide_eq_true c3
     clear c3
     by_cases c4 : 0 ≤ x3_1
     ·
      rw [if_pos c4] at H
      have c4b0 : decide (0 ≤ x3_1) = true := decide_eq_true c4
      clear c4
      by_cases c5 : ((rd_L2 l0 x3_1).length : Int) > 6
      ·
       rw [if_pos c5] at H
       have c5b0 : decide (6 < ((rd_L2 l0 x3_1).length : Int)) = true := decide_eq_true c5
       have c5b1 : decide (6 < (rd_L2 l0 x3_1).length) = true := decide_eq_true (by omega)
       clear c5
       obtain rfl := Option.some.inj H
       have p686 : 0 ≤ (x3_1 : Int) := of_decide_eq_true (by first | (with_reducible assumption) | assumption)
       have q686 : x3_1 < (l0.length : Int) := of_decide_eq_true (by first | (with_reducible assumption) | assumption)
       obtain ⟨ad686, A686_0, c686_0, e686, hx686_0, hl686_0, hi686_0⟩ := at_L2 HR0.out x3_1 p686 q686
       cases e686
       have HR686_0 := Aside0.mk hi686_0
       have HC686_0 := Aside0.mk hl686_0
       clear hi686_0 hl686_0
       replace p686 := eq_true p686
       replace q686 := eq_true q686
       go_wp2
       go_ret
       exact ⟨by first | rfl | (simp; done) | (simp [*]; done), by repeat (first | exact Drawn0.refl _ | apply Drawn0.step)⟩
      ·
       rw [if_neg c5] at H
       have c5b0 : decide (6 < ((rd_L2 l0 x3_1).length : Int)) = false := decide_eq_false c5
       have c5b1 : decide (6 < (rd_L2 l0 x3_1).length) = false := decide_eq_false (by omega)
       clear c5
       have H' := Aside0.mk H
       clear H
       have p686 : 0 ≤ (x3_1 : Int) := of_decide_eq_true (by first | (with_reducible assumption) | assumption)
       have q686 : x3_1 < (l0.length : Int) := of_decide_eq_true (by first | (with_reducible assumption) | assumption)
       obtain ⟨ad686, A686_0, c686_0, e686, hx686_0, hl686_0, hi686_0⟩ := at_L2 HR0.out x3_1 p686 q686
       cases e686
       have HR686_0 := Aside0.mk hi686_0
       have HC686_0 := Aside0.mk hl686_0
       clear hi686_0 hl686_0
       replace p686 := eq_true p686
       replace q686 := eq_true q686
       go_wp2
       go_roundg k1
       case measure => have := HK1.out; omega
       case rel => exact ⟨(wrap64 (x3_1 + 1)), (by first | rfl | (simp; done) | (simp [*]; done)), H', ⟨by have := HK1.out; omega⟩, by repeat (first | exact Drawn0.refl _ | apply Drawn0.step)⟩
     ·
      rw [if_neg c4] at H
      exact absurd H (by simp)
    ·
     rw [if_neg c3] at H
     have c3b0 : decide (x3_1 < (l0.length : Int)) = false := decide_eq_false c3
     clear c3
     obtain rfl := Option.some.inj H
     go_wp2
     go_ret
     exact ⟨by first | rfl | (simp; done) | (simp [*]; done), by repeat (first | exact Drawn0.refl _ | apply Drawn0.step)⟩
end Go.Proofs.Yteodlmgmmpkpoaa.PS
end
section
namespace Go.Proofs.Yteodlmgmmpkpoaa.PS
open Go.RowKit Go.Proofs.YteodlmgmmpkpoaaW.PrintWords Go.Proofs.YteodlmgmmpkpoaaW.PrintLast Go.Proofs.YteodlmgmmpkpoaaW.PrintMore
set_option linter.unusedVariables false
set_option linter.unusedSimpArgs false
theorem rdL2_nat (L : List (List S27)) (i : Nat) : rd_L2 L (i : Int) = L.getD i [] := by unfold rd_L2; rw [Int.toNat_natCast]
theorem restT_cons (a : List S27) (L : List (List S27)) (b : List S27) : restT (a :: L) b = cutT [] a b ++ restT L b := rfl
theorem left_inner (l L : List (List S27)) (b : List S27) (j : Nat) (r : List (List S27)) (K0 : Nat) (hj : j < l.length) (hl : l.length ≤ 100) (hb : l.getD j [] = b) (hbx : boxB b = true) (hL : L.length ≤ 1679616) (hLb : ∀ x ∈ L, boxB x = true ∧ x.length = b.length) (hK : 20 ≤ K0) :
    ∀ (k i : Nat) (acc : List (List S27)), i ≤ L.length → acc.length ≤ 6 * i → (L.length - i) + 1 + K0 ≤ k → (∀ k', K0 ≤ k' → swashplateref01_leftP.l0 k' l (acc ++ restT (L.drop i) b) ((j + 1 : Nat) : Int) = some r) → swashplateref01_leftP.l1 k l L j acc i = some r
  | 0, i, acc, _, _, h, _ => absurd h (by omega)
  | k + 1, i, acc, hi, ha, hk, hr => by
    simp only [swashplateref01_leftP.l1]
    by_cases hlt : i < L.length
    · have hx := hLb _ (getD_mem L [] i hlt)
      have e := drop_stepG [] L i hlt
      have h3 := boxB_size hx.1
      have hm := cutT_max (L.getD i []) b []
      rw [if_pos (by omega), if_pos (by omega), if_pos (by omega), if_pos (by omega), rdL2_nat, rdL2_nat, hb, refM_total _ _ _ (by omega), Option.bind_some]
      unfold minR
      rw [hx.1, hbx, Bool.true_and, if_pos rfl, if_pos hx.2, if_pos (show acc.length + (cutT [] (L.getD i []) b).length < 5864062014805 by omega), step64 i (by omega)]
      refine left_inner l L b j r K0 hj hl hb hbx hL hLb hK k (i + 1) _ (by omega) (by rw [List.length_append]; show acc.length + (cutT [] (L.getD i []) b).length ≤ _; omega) (by omega) (fun k' hk' => ?_)
      have := hr k' hk'
      rw [e, restT_cons, ← List.append_assoc] at this
      exact this
    · rw [if_neg (by omega), step64 j (by omega)]
      have := hr k (by omega)
      rw [List.drop_of_length_le (by omega), show restT [] b = [] from rfl, List.append_nil] at this
      exact this
theorem left_outer (M : Nat) (hM : 1679700 ≤ M) (a : List S27) (l : List (List S27)) (ha : boxB a = true) (hl8 : l.length ≤ 8) (hl : ∀ b ∈ l, boxB b = true ∧ b.length = a.length) (r : Nat) :
    ∀ (j k : Nat), r = l.length - j → j ≤ l.length → r * M + 100 ≤ k → swashplateref01_leftP.l0 k l (leftT a (l.take j)) j = some (leftT a l) := by
  induction r with
  | zero =>
    intro j k hr hj hk
    obtain ⟨k, rfl⟩ : ∃ m, k = m + 1 := ⟨k - 1, by omega⟩
    obtain rfl : j = l.length := by omega
    simp only [swashplateref01_leftP.l0]
    rw [if_neg (by omega), List.take_length]
  | succ r ih =>
    intro j k hr hj hk
    obtain ⟨k, rfl⟩ : ∃ m, k = m + 1 := ⟨k - 1, by omega⟩
    simp only [swashplateref01_leftP.l0]
    have hlt : j < l.length := by omega
    have hb := hl _ (getD_mem l [] j hlt)
    have hok := leftT_ok (a := a) (l := l.take j) ha rfl (fun x hx => hl x (List.mem_of_mem_take hx))
    have hp := pow6 (n := (l.take j).length) (by rw [List.length_take]; omega)
    rw [Nat.succ_mul] at hk
    obtain ⟨q, hq⟩ : ∃ q, r * M = q := ⟨_, rfl⟩
    rw [hq] at ih hk
    rw [if_pos (by omega)]
    refine left_inner l _ (l.getD j []) j _ (q + 100) hlt (by omega) rfl hb.1 (by omega) (fun x hx => ⟨(hok.1 x hx).1, (hok.1 x hx).2.trans hb.2.symm⟩) (by omega) k 0 [] (Nat.zero_le _) (by simp) (by omega) (fun k' hk' => ?_)
    rw [List.nil_append, List.drop_zero, ← leftT_snoc]
    have := ih (j + 1) k' (by omega) (by omega) hk'
    rw [List.take_succ_eq_append_getElem hlt] at this
    simpa [List.getD_eq_getElem?_getD, List.getElem?_eq_getElem hlt] using this
theorem left_total (a : List S27) (l : List (List S27)) (ha : boxB a = true) (hl8 : l.length ≤ 8) (hl : ∀ b ∈ l, boxB b = true ∧ b.length = a.length) (k : Nat) (hk : 15000000 ≤ k) : swashplateref01_leftP.f k a l = some (leftT a l) := by
  unfold swashplateref01_leftP.f
  obtain ⟨M, hM⟩ : ∃ M : Nat, M = 1700000 := ⟨_, rfl⟩
  have h1 : l.length * M ≤ 8 * M := Nat.mul_le_mul_right _ hl8
  exact left_outer M (by omega) a l ha hl8 hl l.length 0 k (by omega) (Nat.zero_le _) (by omega)
theorem cl1_loop (l : List (List S27)) (hl : l.length ≤ 1000) (n : Nat) : ∀ (k i : Nat), i ≤ l.length → l.length - i < k →
    swashplateref01_checkList.l1 k l (n : Int) i = some (if (l.drop i).all (fun b => b.length == n) then 0 else 1)
  | 0, i, _, h => absurd h (Nat.not_lt_zero _)
  | k + 1, i, hi, hk => by
    simp only [swashplateref01_checkList.l1]
    by_cases hlt : i < l.length
    · rw [if_pos (by omega), if_neg (by omega), if_pos (by omega), rdL2_nat, drop_stepG [] l i hlt, List.all_cons]
      by_cases hc : (l.getD i []).length = n
      · rw [if_pos (by omega), step64 i (by omega), cl1_loop l hl n k (i + 1) (by omega) (by omega), beq_iff_eq.2 hc, Bool.true_and]
      · rw [if_neg (by omega), show ((l.getD i []).length == n) = false from beq_eq_false_iff_ne.2 hc]
        rfl
    · rw [if_neg (by omega), List.drop_of_length_le (by omega)]
      rfl
theorem cl0_loop (l : List (List S27)) (hl : l.length ≤ 1000) (d : Int) (E : Int) : ∀ (k i : Nat), i ≤ l.length → (l.length - i) + l.length + 20 ≤ k → (∀ k', l.length < k' → swashplateref01_checkList.l1 k' l d 0 = some E) →
    swashplateref01_checkList.l0 k l d i = some (if (l.drop i).all boxB then E else 10)
  | 0, i, _, h, _ => absurd h (by omega)
  | k + 1, i, hi, hk, hE => by
    simp only [swashplateref01_checkList.l0]
    by_cases hlt : i < l.length
    · rw [if_pos (by omega), if_pos (by omega), rdL2_nat, rcheck_total _ _ (by omega), Option.bind_some, drop_stepG [] l i hlt, List.all_cons]
      rcases Bool.eq_false_or_eq_true (boxB (l.getD i [])) with hb | hb
      · rw [hb, if_pos rfl, if_pos rfl, step64 i (by omega), cl0_loop l hl d E k (i + 1) (by omega) (by omega) hE, Bool.true_and]
      · rw [hb, if_neg (show ¬ (false = true) by decide), if_neg (show ¬ ((10 : Int) = 0) by decide), Bool.false_and, if_neg (show ¬ (false = true) by decide)]
    · rw [if_neg (by omega), List.drop_of_length_le (by omega), List.all_nil, if_pos rfl]
      exact hE k (by omega)
theorem cl_dims (l : List (List S27)) (hl : l.length ≤ 20) (n : Nat) (k : Nat) (hk : 100 ≤ k) : swashplateref01_checkList.f k l (n : Int) = some (if l.all boxB then (if sameB n l then 0 else 1) else 10) := by
  unfold swashplateref01_checkList.f
  rw [if_neg (by omega)]
  have := cl0_loop l (by omega) (n : Int) (if l.all (fun b => b.length == n) then 0 else 1) k 0 (Nat.zero_le _) (by omega) (fun k' hk' => by
    have := cl1_loop l (by omega) n k' 0 (Nat.zero_le _) (by omega)
    rwa [List.drop_zero] at this)
  rw [List.drop_zero] at this
  exact this
theorem cl_many (l : List (List S27)) (hl : 20 < l.length) (d : Int) (k : Nat) : swashplateref01_checkList.f k l d = some 2 := by
  unfold swashplateref01_checkList.f
  rw [if_pos (by omega)]
theorem copyB_loop (l : List (List S27)) (hl : l.length ≤ 1000) (hd : ∀ x ∈ l, x.length ≤ 1000) : ∀ (k i : Nat), i ≤ l.length → l.length - i < k → swashplateref01_CopyBoxes.l0 k l (l.take i) i = some l
  | 0, i, _, h => absurd h (Nat.not_lt_zero _)
  | k + 1, i, hi, hk => by
    simp only [swashplateref01_CopyBoxes.l0]
    by_cases hlt : i < l.length
    · have hx := hd _ (getD_mem l [] i hlt)
      rw [if_pos (by omega), Option.bind_some, if_pos (by omega), rdL2_nat, if_pos (by simp only [List.length_nil]; omega), if_pos (by rw [List.length_take]; omega), List.nil_append, step64 i (by omega)]
      have := copyB_loop l hl hd k (i + 1) (by omega) (by omega)
      rw [List.take_succ_eq_append_getElem hlt] at this
      simpa [List.getD_eq_getElem?_getD, List.getElem?_eq_getElem hlt] using this
    · obtain rfl : i = l.length := by omega
      rw [if_neg (by omega), List.take_length]
theorem copyB_total (l : List (List S27)) (hl : l.length ≤ 1000) (hd : ∀ x ∈ l, x.length ≤ 1000) (k : Nat) (hk : l.length < k) : swashplateref01_CopyBoxes.f k l = some l := by
  unfold swashplateref01_CopyBoxes.f
  exact copyB_loop l hl hd k 0 (Nat.zero_le _) (by omega)
def farL (l : List (List S27)) : Bool := decide (25 < l.length) || l.any fun x => decide (6 < x.length)
theorem farL_loop (l : List (List S27)) (hl : l.length ≤ 25) : ∀ (k i : Nat), i ≤ l.length → l.length - i < k → swashplatelaw01_farBoxes.l0 k l i = some ((l.drop i).any fun x => decide (6 < x.length))
  | 0, i, _, h => absurd h (Nat.not_lt_zero _)
  | k + 1, i, hi, hk => by
    simp only [swashplatelaw01_farBoxes.l0]
    by_cases hlt : i < l.length
    · rw [if_pos (by omega), if_pos (by omega), rdL2_nat, drop_stepG [] l i hlt, List.any_cons]
      by_cases hc : 6 < (l.getD i []).length
      · rw [if_pos (by omega), decide_eq_true hc, Bool.true_or]
      · rw [if_neg (by omega), step64 i (by omega), farL_loop l hl k (i + 1) (by omega) (by omega), decide_eq_false hc, Bool.false_or]
    · rw [if_neg (by omega), List.drop_of_length_le (by omega)]
      rfl
theorem farL_total (l : List (List S27)) (k : Nat) (hk : 30 ≤ k) : swashplatelaw01_farBoxes.f k l = some (farL l) := by
  unfold swashplatelaw01_farBoxes.f farL
  by_cases h : 25 < l.length
  · rw [if_pos (by omega), decide_eq_true h, Bool.true_or]
  · rw [if_neg (by omega), decide_eq_false h, Bool.false_or]
    have := farL_loop l (by omega) k 0 (Nat.zero_le _) (by omega)
    rwa [List.drop_zero] at this
theorem farL_false {l : List (List S27)} (h : farL l = false) : l.length ≤ 25 ∧ ∀ x ∈ l, x.length ≤ 6 := by
  unfold farL at h
  simp only [Bool.or_eq_false_iff, decide_eq_false_iff_not, List.any_eq_false, decide_eq_true_eq] at h
  exact ⟨by omega, fun x hx => by have := h.2 x hx; omega⟩
end Go.Proofs.Yteodlmgmmpkpoaa.PS
end
section
namespace Go.Proofs.Yteodlmgmmpkpoaa.PS
open Go.RowKit Go.Shelf Go.Proofs.YteodlmgmmpkpoaaW.PrintWords Go.Proofs.YteodlmgmmpkpoaaW.PrintLast Go.Proofs.YteodlmgmmpkpoaaW.PrintMore
set_option linter.unusedVariables false
set_option linter.unusedSimpArgs false
attribute [local go_sem] Oper.semAt_some
theorem run_pt_nil (ad : Addr) (n c : Nat) (w : World) : (binOp .eql 22 (.slice (some ad) n c) (.slice none 0 0)).run Try.prog w = .ok (.bool false) w := by
  first | kernel_rfl | (simp [binOp, Try.underlying22, go_sem])
theorem run_pt_nil0 (w : World) : (binOp .eql 22 (.slice none 0 0) (.slice none 0 0)).run Try.prog w = .ok (.bool true) w := by
  first | kernel_rfl | (simp [binOp, Try.underlying22, go_sem])
attribute [local go_sem] run_pt_nil run_pt_nil0
theorem lows_len (x : List S27) : (lowsT x).length = x.length := by unfold lowsT; rw [List.length_map]
def spans_CoversP.f (a : List S27) (l : List (List S27)) : Option (List Int × Bool × Int) :=
  if 20 < l.length then some ([], false, 2) else if 8 < l.length then none else some (if listE (a :: l) = 0 then (firstT ((leftT a l).map lowsT), (leftT a l).isEmpty, 0) else ([], false, listE (a :: l)))
set_option maxRecDepth 100000 in
set_option maxHeartbeats 4000000 in
theorem spans_CoversP.calls (A0 : Option Addr) (c0 : Nat) (l0 : List (S27)) (A1 : Option Addr) (c1 : Nat) (l1 : List (List (S27))) (r1 : List Int) (r2 : Bool) (r3 : Int) (w : World) (hr0 : Kd.C k27 w A0 l0.length l0) (hc0 : l0.length ≤ c0) (hr1 : Kd.C (Kd.slice 27 k27) w A1 l1.length l1) (hc1 : l1.length ≤ c1) (h : spans_CoversP.f l0 l1 = some (r1, r2, r3)) :
    Calls Try.prog 76 #[.slice A0 l0.length c0, .slice A1 l1.length c1] w fun e w' => ∃ v0_ : Value, e = .returned (.tuple #[v0_, .bool r2, .int .i64 r3]) ∧ Kd.R (Kd.int .i64) 3 w' w.heap.size (fun _ => True) v0_ r1 ∧ Below w.heap.size w w' := by
  have HR0 := Aside0.mk hr0
  have HR1 := Aside0.mk hr1
  clear hr0 hr1
  have HB := Aside0.mk (Below.refl w.heap.size w)
  unfold spans_CoversP.f at h
  by_cases hm : 20 < l1.length
  · rw [if_pos hm] at h
    cases h
    have hdec : decide ((l1.length : Int) > 20) = true := decide_eq_true (by omega)
    go_enter Try.func76, Try.ntmps76
    go_wp2
    refine bodyPost_ret (results_list (rs := [.tmp 4, .tmp 5, .tmp 6]) rfl (by simp) (.tmp (.tmp (.tmp .nil)))) rfl ?_
    exact ⟨_, rfl, Kd.R_nil _ _ _ _ _, Below.refl _ _⟩
  · rw [if_neg hm] at h
    by_cases h8 : 8 < l1.length
    · rw [if_pos h8] at h
      cases h
    · rw [if_neg h8] at h
      have H := Aside0.mk (Option.some.inj h)
      clear h
      have hdec : decide ((l1.length : Int) > 20) = false := decide_eq_false (by omega)
      have ck := Aside0.mk (checkL_total (l0 :: l1) (by simp; omega) 1000 (by omega))
      have HF0 := Aside0.mk (Kd.C_F k27_heap HR0.out)
      have HF1 := Aside0.mk (Kd.C_F (Kd.heap_slice (e := 27) k27_heap) HR1.out)
      have HL8 : Aside0 (l1.length ≤ 8) := ⟨by omega⟩
      by_cases he : listE (l0 :: l1) = 0
      · have HE := Aside0.mk he
        rw [he] at ck
        rw [if_pos he] at H
        clear he
        go_enter Try.func76, Try.ntmps76
        go_wp2_with (first
          | ((with_reducible refine gate_dst (N := 18) rfl ?_); refine Kd.N_lit (Kd.slice 27 k27) _ 38 ?hg (N' := 18) ?hd (xs := ([l0] : List (List (S27)))) (inner := [.slice A0 l0.length c0]) (ok := (fun _ => True)) (okp := (fun k_ => k_ < w.heap.size)) ?hr ?hp (fun _ hk => trivial) trivial (Below.refl _ _) (Nat.le_refl _) (by simp) ?_; (case hd => rfl); (case hg => rfl); (case hr => first | (go_simp; done) | (go_simp; rfl)); (case hp => exact (Reps.one (show Kd.FK (Kd.slice 27 k27) _ _ l0 [.slice A0 l0.length c0] from (Kd.FK_slice_mk hc0 HF0.out)) (Reps.none _ _))); intro v663 w3 ho4 hb hg_ hnew_; have HO := Aside0.mk ho4; have HB2 := Aside0.mk hb; clear ho4 hb hg_ hnew_)
          | ((with_reducible refine gate_builtin (b := .append) (xs := #[.tmp 18, .tmp 19]) rfl ?_); at_builtin; refine Kd.N_append_rows (Kd.slice 27 k27) (w0 := w) w.heap.size rfl (.tmp 18) (.tmp 19) 95 38 (.slice none 0 0) 24 rfl Try.underlying95 info38 rfl (by decide) (by omega) v663 [l0] l1 A1 l1.length c1 (fun _ => True) (fun k_ => k_ < w.heap.size) rfl rfl HO.out ?aR ?aK (fun _ _ => trivial) HB2.out HB2.out.size ?aL ?_; (case aR => exact Kd.F_below HF1.out HB2.out); (case aK => exact fun k_ hk => ⟨trivial, fun e => by have := Kd.N_base HO.out k_ e.symm; omega⟩); (case aL => have := HL8.out; simp only [List.length_singleton]; omega); intro v672 w15 ho hb hg hat; have HB3 := Aside0.mk hb; obtain ⟨A5, c5, rfl, hc5, hC5⟩ := Kd.N_reads ho; have HC5 := Aside0.mk hC5; clear ho hb hg hat hC5)
          | (refine (spans_check.calls 1000 A5 c5 ([l0] ++ l1) _ _ HC5.out hc5 ck.out).mono ?_; rintro e w1 ⟨rfl, hb1⟩; have HB4 := Aside0.mk (HB3.out.trans (hb1.mono HB3.out.size)); clear hb1))
        refine (wpIn_wide (n := 7)).1 ?_
        have HRd0 := Aside0.mk (slice_lit (W := w1) (Kd.C_below HR0.out HB4.out) hc0)
        have HB5 : Aside0 (Below w.heap.size w (w1.alloc (.cells #[.slice A0 l0.length c0] 38))) := ⟨below_alloc HB4.out _⟩
        have HOk : Aside0 (boxB l0 = true ∧ ∀ b ∈ l1, boxB b = true ∧ b.length = l0.length) := ⟨(listE_ok HE.out l0 List.mem_cons_self).1, fun b hb => listE_ok HE.out b (List.mem_cons_of_mem _ hb)⟩
        gi_loopw [8, 29] (fun v8 v29 ws => ∃ (j : Nat), v29 = .int .i64 j ∧ Aside0 (j ≤ l1.length) ∧ Aside0 (Rd ws v8 (leftT l0 (l1.take j))) ∧ Aside0 (Below w.heap.size w ws)) (fun _ v29 _ => l1.length - (intOf v29).toNat)
        case atStart => exact ⟨0, rfl, ⟨Nat.zero_le _⟩, ⟨_, _, rfl, Nat.le_refl _, HRd0.out⟩, HB5⟩
        case round =>
          obtain ⟨j, rfl, HJ, HRd, HBs⟩ := hrel
          by_cases hj : j < l1.length
          · obtain ⟨ad, A2, c2, rfl, hcell2, hc2, hCb⟩ := at_L2 (Kd.C_below HR1.out HBs.out) (j : Int) (by omega) (by omega)
            rw [Int.toNat_natCast] at hcell2
            obtain ⟨b, hb⟩ : ∃ b, rd_L2 l1 (j : Int) = b := ⟨_, rfl⟩
            rw [hb] at hcell2 hc2 hCb
            have hgb : l1.getD j [] = b := by rw [← hb]; unfold rd_L2; rw [Int.toNat_natCast]
            have hmem : b ∈ l1 := by rw [← hgb]; exact getD_mem l1 [] j (by omega)
            have HBb : Aside0 (b ∈ l1 ∧ boxB b = true ∧ b.length = l0.length ∧ l1.take (j + 1) = l1.take j ++ [b]) := by
              refine ⟨hmem, (HOk.out.2 b hmem).1, (HOk.out.2 b hmem).2, ?_⟩
              rw [List.take_succ_eq_append_getElem (by omega), ← hgb]
              simp [List.getD_eq_getElem?_getD, List.getElem?_eq_getElem (show j < l1.length by omega)]
            have hall := leftT_ok (a := l0) (l := l1.take j) HOk.out.1 rfl (fun x hx => HOk.out.2 x (List.mem_of_mem_take hx))
            have hp6 := pow6 (n := (l1.take j).length) (by rw [List.length_take]; have := HL8.out; omega)
            have HCb := Aside0.mk hCb
            have HAll := Aside0.mk hall
            have HP6 : Aside0 ((leftT l0 (l1.take j)).length ≤ 100000000) := ⟨by have := hall.2; omega⟩
            obtain ⟨A7, c7, rfl, hc7, hC7⟩ := HRd.out
            have HC7 := Aside0.mk hC7
            have hdj : decide ((j : Int) < (l1.length : Int)) = true := decide_eq_true (by omega)
            have wj : IntKind.i64.wrap ((j : Int) + 1) = ((j + 1 : Nat) : Int) := by have := HL8.out; rw [wrI (by omega) (by omega)]; rfl
            clear hCb hall hp6 hC7 hb hgb hmem
            gi_wp2_with (refine ⟨trivial, ?_⟩; gi_at_call 123; refine (callsIn_wide.2 (rest.calls A7 c7 _ A2 c2 b HBb.out.2.1 (fun x hx => ⟨(HAll.out.1 x hx).1, (HAll.out.1 x hx).2.trans HBb.out.2.2.1.symm⟩) HP6.out _ HC7.out hc7 HCb.out hc2)).mono ?_; rintro e w2 ⟨v, rfl, hS, hb2⟩)
            refine ⟨⟨j + 1, by rw [Int.natCast_succ], ⟨by omega⟩, ⟨?_⟩, ⟨HBs.out.trans (hb2.mono HBs.out.size)⟩⟩, ?_⟩
            · rw [HBb.out.2.2.2, leftT_snoc]
              exact Rd.of_S hS
            · show l1.length - ((j : Int) + 1).toNat < l1.length - (j : Int).toNat
              omega
          · obtain rfl : j = l1.length := by have := HJ.out; omega
            have hdj : decide ((l1.length : Int) < (l1.length : Int)) = false := decide_eq_false (by omega)
            rw [List.take_length] at HRd
            have hall := leftT_ok (a := l0) (l := l1) HOk.out.1 rfl HOk.out.2
            have hp6 := pow6 (n := l1.length) HL8.out
            obtain ⟨L, hLe⟩ : ∃ L, leftT l0 l1 = L := ⟨_, rfl⟩
            have HG := H.out
            rw [hLe] at HRd hall HG
            have HAll := Aside0.mk hall.1
            have HLL : Aside0 (L.length ≤ 100000000) := ⟨by omega⟩
            obtain ⟨A7, c7, rfl, hc7, hC7⟩ := HRd.out
            have HC7 := Aside0.mk hC7
            cases HG
            clear hall hp6 hLe hC7
            gi_wp2
            refine (wpIn_wide (n := 7)).1 ?_
            gi_wp2
            gi_loopw [4, 39] (fun v4 v39 wt => ∃ (m : Nat), v39 = .int .i64 m ∧ Aside0 (m ≤ L.length) ∧ Aside0 (Kd.R (Kd.int .i64) 3 wt w.heap.size (fun _ => True) v4 (firstT ((L.take m).map lowsT)) ∧ (m = 0 → v4 = .slice none 0 0)) ∧ Aside0 (Below w.heap.size w wt) ∧ Aside0 (Below wr.heap.size wr wt)) (fun _ v39 _ => L.length - (intOf v39).toNat)
            case atStart => exact ⟨0, rfl, ⟨Nat.zero_le _⟩, ⟨Kd.R_nil _ _ _ _ _, fun _ => rfl⟩, HBs, ⟨Below.refl _ _⟩⟩
            case round =>
              obtain ⟨m, rfl, HM, HP, HBt, HBu⟩ := hrel
              by_cases hm2 : m < L.length
              · obtain ⟨ad7, A8, c8, rfl, hcell8, hc8, hCx⟩ := at_L2 (Kd.C_below HC7.out HBu.out) (m : Int) (by omega) (by omega)
                rw [Int.toNat_natCast] at hcell8
                obtain ⟨x, hx⟩ : ∃ x, rd_L2 L (m : Int) = x := ⟨_, rfl⟩
                rw [hx] at hcell8 hc8 hCx
                have hgx : L.getD m [] = x := by rw [← hx]; unfold rd_L2; rw [Int.toNat_natCast]
                have HX : Aside0 (boxB x = true ∧ x.length = l0.length ∧ L.take (m + 1) = L.take m ++ [x]) := by
                  have h1 := HAll.out x (by rw [← hgx]; exact getD_mem L [] m hm2)
                  refine ⟨h1.1, h1.2, ?_⟩
                  rw [List.take_succ_eq_append_getElem hm2, ← hgx]
                  simp [List.getD_eq_getElem?_getD, List.getElem?_eq_getElem hm2]
                have HCx := Aside0.mk hCx
                have hx3 := Aside0.mk (boxB_size HX.out.1)
                have ckc := Aside0.mk (corner_total x (by have := hx3.out; omega) 1000 (by have := hx3.out; omega))
                clear hCx hx hgx
                have hdm : decide ((m : Int) < (L.length : Int)) = true := decide_eq_true (by omega)
                have wm : IntKind.i64.wrap ((m : Int) + 1) = ((m + 1 : Nat) : Int) := by have := HLL.out; rw [wrI (by omega) (by omega)]; rfl
                by_cases h0 : m = 0
                · obtain rfl := HP.out.2 h0
                  have H0 := Aside0.mk h0
                  clear h0
                  gi_wp2_with (first
                    | (refine ⟨trivial, ?_⟩; gi_at_call 139; refine (callsIn_wide.2 (spans_corner.calls 1000 A8 c8 x _ _ HCx.out hc8 ckc.out)).mono ?_; rintro e w2 ⟨v, rfl, hR, hb2⟩)
                    | (refine ⟨trivial, ?_⟩))
                  refine ⟨⟨m + 1, by rw [Int.natCast_succ], ⟨by omega⟩, ⟨?_, fun h => absurd h (by omega)⟩, ⟨HBt.out.trans (hb2.mono HBt.out.size)⟩, ⟨HBu.out.trans (hb2.mono HBu.out.size)⟩⟩, ?_⟩
                  · rw [HX.out.2.2, H0.out, List.take_zero]
                    exact Kd.R_lower hR HBt.out.size
                  · show L.length - ((m : Int) + 1).toNat < L.length - (m : Int).toNat
                    omega
                · have hne : ((L.take m).map lowsT) ≠ [] := by
                    intro e
                    have := congrArg List.length e
                    rw [List.length_map, List.length_take, List.length_nil] at this
                    omega
                  have hfm : (firstT ((L.take m).map lowsT)).length = l0.length := by
                    obtain ⟨y, hy, e⟩ := List.mem_map.1 (firstT_mem _ hne)
                    rw [← e, lows_len]
                    exact (HAll.out y (List.mem_of_mem_take hy)).2
                  have HNe := Aside0.mk hne
                  obtain ⟨P0, hP0⟩ : ∃ P0, firstT ((L.take m).map lowsT) = P0 := ⟨_, rfl⟩
                  have HPe := Aside0.mk hP0
                  rw [hP0] at hfm HP
                  obtain ⟨g, cap, rfl, hg1, hg2, cells, hcell⟩ := Kd.R_form HP.out.1 (by have := hx3.out; have := HX.out; omega)
                  have HFm := Aside0.mk hfm
                  obtain ⟨cc, hcc, hcl⟩ := cmpL_total (lowsT x) P0 (by rw [lows_len]; have := hx3.out; omega) (by rw [lows_len, hfm]; exact HX.out.2.1.symm) 1000 (by rw [lows_len]; have := hx3.out; omega)
                  have HCc := Aside0.mk hcc
                  have HCl := Aside0.mk hcl
                  have HPr := Aside0.mk (Kd.R_reads' HP.out.1)
                  clear hne hP0 hfm hcell hcc hcl h0
                  by_cases hlt : cc < 0
                  · have hdc : decide (cc < 0) = true := decide_eq_true hlt
                    have HLt := Aside0.mk hlt
                    clear hlt
                    gi_wp2_with (first
                      | (refine ⟨trivial, ?_⟩; gi_at_call 139; refine (callsIn_wide.2 (spans_corner.calls 1000 A8 c8 x _ _ HCx.out hc8 ckc.out)).mono ?_; rintro e w2 ⟨v, rfl, hR, hb2⟩; obtain ⟨A9, c9, rfl⟩ := Kd.R_slice hR; have HR2 := Aside0.mk hR; have HB2' := Aside0.mk hb2; have HPr2 := Aside0.mk (Kd.R_reads' hR); clear hR hb2)
                      | (refine ⟨trivial, ?_⟩; gi_at_call 140; refine (callsIn_wide.2 (slices_Compare_int_int.calls 1000 A9 c9 (lowsT x) (some ⟨g, 0, none⟩) cap P0 cc _ HPr2.out.2.2 HPr2.out.2.1 (Kd.C_below HPr.out.2.2 HB2'.out) HPr.out.2.1 HCc.out)).mono ?_; rintro e w3 ⟨rfl, hdr⟩))
                    have hb3 := HB2'.out.trans ((Drawn0.below hdr).mono HB2'.out.size)
                    refine ⟨⟨m + 1, by rw [Int.natCast_succ], ⟨by omega⟩, ⟨?_, fun h => absurd h (by omega)⟩, ⟨HBt.out.trans (hb3.mono HBt.out.size)⟩, ⟨HBu.out.trans (hb3.mono HBu.out.size)⟩⟩, ?_⟩
                    · rw [HX.out.2.2, List.map_append, List.map_cons, List.map_nil, firstT_snoc _ _ HNe.out, HPe.out, HCl.out.1 HLt.out, if_pos rfl]
                      exact Kd.R_below (Kd.R_lower HR2.out HBt.out.size) (Drawn0.below hdr)
                    · show L.length - ((m : Int) + 1).toNat < L.length - (m : Int).toNat
                      omega
                  · have hdc : decide (cc < 0) = false := decide_eq_false hlt
                    have HLt := Aside0.mk hlt
                    clear hlt
                    gi_wp2_with (first
                      | (refine ⟨trivial, ?_⟩; gi_at_call 139; refine (callsIn_wide.2 (spans_corner.calls 1000 A8 c8 x _ _ HCx.out hc8 ckc.out)).mono ?_; rintro e w2 ⟨v, rfl, hR, hb2⟩; obtain ⟨A9, c9, rfl⟩ := Kd.R_slice hR; have HR2 := Aside0.mk hR; have HB2' := Aside0.mk hb2; have HPr2 := Aside0.mk (Kd.R_reads' hR); clear hR hb2)
                      | (refine ⟨trivial, ?_⟩; gi_at_call 140; refine (callsIn_wide.2 (slices_Compare_int_int.calls 1000 A9 c9 (lowsT x) (some ⟨g, 0, none⟩) cap P0 cc _ HPr2.out.2.2 HPr2.out.2.1 (Kd.C_below HPr.out.2.2 HB2'.out) HPr.out.2.1 HCc.out)).mono ?_; rintro e w3 ⟨rfl, hdr⟩))
                    have hb3 := HB2'.out.trans ((Drawn0.below hdr).mono HB2'.out.size)
                    refine ⟨⟨m + 1, by rw [Int.natCast_succ], ⟨by omega⟩, ⟨?_, fun h => absurd h (by omega)⟩, ⟨HBt.out.trans (hb3.mono HBt.out.size)⟩, ⟨HBu.out.trans (hb3.mono HBu.out.size)⟩⟩, ?_⟩
                    · rw [HX.out.2.2, List.map_append, List.map_cons, List.map_nil, firstT_snoc _ _ HNe.out, HPe.out, if_neg (fun h => by have h1 := HLt.out; have h2 := HCl.out.2 h; omega)]
                      exact Kd.R_below HP.out.1 hb3
                    · show L.length - ((m : Int) + 1).toNat < L.length - (m : Int).toNat
                      omega
              · obtain rfl : m = L.length := by have := HM.out; omega
                have hdm : decide ((L.length : Int) < (L.length : Int)) = false := decide_eq_false (by omega)
                rw [List.take_length] at HP
                by_cases h0 : L = []
                · subst h0
                  obtain rfl := HP.out.2 rfl
                  gi_wp2
                  refine bodyPost_ret (results_list (rs := [.tmp 4, .tmp 5, .tmp 6]) rfl (by simp) (.tmp (.tmp (.tmp .nil)))) rfl ?_
                  exact ⟨_, rfl, HP.out.1, HBt.out⟩
                · have hne : (L.map lowsT) ≠ [] := by simpa using h0
                  have hfm : (firstT (L.map lowsT)).length = l0.length := by
                    obtain ⟨y, hy, e⟩ := List.mem_map.1 (firstT_mem _ hne)
                    rw [← e, lows_len]
                    exact (HAll.out y hy).2
                  have h1 := boxB_size HOk.out.1
                  have hie : L.isEmpty = false := by
                    cases L with
                    | nil => exact absurd rfl h0
                    | cons a l => rfl
                  obtain ⟨P0, hP0⟩ : ∃ P0, firstT (L.map lowsT) = P0 := ⟨_, rfl⟩
                  rw [hP0] at hfm HP
                  have HPe := Aside0.mk hP0
                  have HIe := Aside0.mk hie
                  obtain ⟨g, cap, rfl, hg1, hg2, cells, hcell⟩ := Kd.R_form HP.out.1 (by omega)
                  clear hne hP0 hfm hcell h0 h1 hie
                  gi_wp2
                  refine bodyPost_ret (results_list (rs := [.tmp 4, .tmp 5, .tmp 6]) rfl (by simp) (.tmp (.tmp (.tmp .nil)))) rfl ?_
                  rw [HPe.out, HIe.out]
                  exact ⟨_, rfl, HP.out.1, HBt.out⟩
      · have hne : (listE (l0 :: l1) != 0) = true := by simpa using he
        rw [if_neg he] at H
        cases H.out
        clear he
        go_enter Try.func76, Try.ntmps76
        go_wp2_with (first
          | ((with_reducible refine gate_dst (N := 18) rfl ?_); refine Kd.N_lit (Kd.slice 27 k27) _ 38 ?hg (N' := 18) ?hd (xs := ([l0] : List (List (S27)))) (inner := [.slice A0 l0.length c0]) (ok := (fun _ => True)) (okp := (fun k_ => k_ < w.heap.size)) ?hr ?hp (fun _ hk => trivial) trivial (Below.refl _ _) (Nat.le_refl _) (by simp) ?_; (case hd => rfl); (case hg => rfl); (case hr => first | (go_simp; done) | (go_simp; rfl)); (case hp => exact (Reps.one (show Kd.FK (Kd.slice 27 k27) _ _ l0 [.slice A0 l0.length c0] from (Kd.FK_slice_mk hc0 HF0.out)) (Reps.none _ _))); intro v663 w3 ho4 hb hg_ hnew_; have HO := Aside0.mk ho4; have HB2 := Aside0.mk hb; clear ho4 hb hg_ hnew_)
          | ((with_reducible refine gate_builtin (b := .append) (xs := #[.tmp 18, .tmp 19]) rfl ?_); at_builtin; refine Kd.N_append_rows (Kd.slice 27 k27) (w0 := w) w.heap.size rfl (.tmp 18) (.tmp 19) 95 38 (.slice none 0 0) 24 rfl Try.underlying95 info38 rfl (by decide) (by omega) v663 [l0] l1 A1 l1.length c1 (fun _ => True) (fun k_ => k_ < w.heap.size) rfl rfl HO.out ?aR ?aK (fun _ _ => trivial) HB2.out HB2.out.size ?aL ?_; (case aR => exact Kd.F_below HF1.out HB2.out); (case aK => exact fun k_ hk => ⟨trivial, fun e => by have := Kd.N_base HO.out k_ e.symm; omega⟩); (case aL => have := HL8.out; simp only [List.length_singleton]; omega); intro v672 w15 ho hb hg hat; have HB3 := Aside0.mk hb; obtain ⟨A5, c5, rfl, hc5, hC5⟩ := Kd.N_reads ho; have HC5 := Aside0.mk hC5; clear ho hb hg hat hC5)
          | (refine (spans_check.calls 1000 A5 c5 ([l0] ++ l1) _ _ HC5.out hc5 ck.out).mono ?_; rintro e w1 ⟨rfl, hb1⟩; have HB4 := Aside0.mk (HB3.out.trans (hb1.mono HB3.out.size)); clear hb1))
        refine bodyPost_ret (results_list (rs := [.tmp 4, .tmp 5, .tmp 6]) rfl (by simp) (.tmp (.tmp (.tmp .nil)))) rfl ?_
        exact ⟨_, rfl, Kd.R_nil _ _ _ _ _, HB4.out⟩
end Go.Proofs.Yteodlmgmmpkpoaa.PS
end
section
namespace Go.Proofs.Yteodlmgmmpkpoaa.PS
open Go.RowKit Go.Proofs.YteodlmgmmpkpoaaW.PrintWords Go.Proofs.YteodlmgmmpkpoaaW.PrintLast Go.Proofs.YteodlmgmmpkpoaaW.PrintMore
attribute [local go_sem] max2_int min2_int max_two min_two max_three min_three max_four min_four   -- for this text's walks alone
set_option linter.unusedVariables false
set_option linter.unusedSimpArgs false
def swashplatelaw01_sameInts.l0 : Nat → List Int → List Int → Int → Option (Bool)
 | 0, _, _, _ => none
 | k + 1, x0, x1, x5 => if x5 < (x0.length : Int) then (if 0 ≤ x5 then (if x5 < (x1.length : Int) then (if (rd x0 x5) = (rd x1 x5) then (swashplatelaw01_sameInts.l0 k x0 x1 (wrap64 (x5 + 1))) else (some false)) else (none)) else (none)) else (some true)
def swashplatelaw01_sameInts.f (k : Nat) (l0 : List Int) (l1 : List Int) : Option (Bool) := if (l0.length : Int) = (l1.length : Int) then (swashplatelaw01_sameInts.l0 k l0 l1 0) else (some false)
set_option maxHeartbeats 8000000 in
set_option maxRecDepth 100000 in
theorem swashplatelaw01_sameInts.calls (k : Nat) (A0 : Option Addr) (c0 : Nat) (l0 : List Int) (A1 : Option Addr) (c1 : Nat) (l1 : List Int) (r : Bool) (w : World) (hr0 : Kd.C (Kd.int .i64) w A0 l0.length l0) (hc0 : l0.length ≤ c0) (hr1 : Kd.C (Kd.int .i64) w A1 l1.length l1) (hc1 : l1.length ≤ c1) (h : swashplatelaw01_sameInts.f k l0 l1 = some r) :
  Calls Try.prog 78 #[.slice A0 l0.length c0, .slice A1 l1.length c1] w fun e w' => e = .returned (.bool r) ∧ Drawn0 w w' := by
 have HR0 := Aside0.mk hr0
 have HC0 := Aside0.mk hc0
 clear hr0 hc0
 have HR1 := Aside0.mk hr1
 have HC1 := Aside0.mk hc1
 clear hr1 hc1
 have H : (if (l0.length : Int) = (l1.length : Int) then (swashplatelaw01_sameInts.l0 k l0 l1 0) else (some false)) = some r := h
 clear h
 by_cases c3 : (l0.length : Int) = (l1.length : Int)
 ·
  rw [if_pos c3] at H
  have c3b0 : ((l0.length : Int) == (l1.length : Int)) = true := beq_iff_eq.mpr c3
  have c3b1 : ((l0.length : Int) != (l1.length : Int)) = false := bne_eq_false_iff_eq.mpr c3
  have c3b2 : (l0.length == l1.length) = true := by first | simpa using c3 | (simp at c3 ⊢; omega)
  clear c3
  have H' := Aside0.mk H
  clear H
  go_enter Try.func78, Try.ntmps78
  go_wp2
  go_loopg [5] k (fun kq v5 w' => ∃ (x5_1 : Int), v5 = .int .i64 x5_1 ∧ Aside0 (swashplatelaw01_sameInts.l0 kq l0 l1 x5_1 = some r) ∧ Aside0 (kq ≤ k) ∧ Drawn0 w w')
  case atStart => exact ⟨(0), (by first | rfl | (simp; done) | (simp [*]; done)), H', ⟨Nat.le_refl _⟩, by repeat (first | exact Drawn0.refl _ | apply Drawn0.step)⟩
  case round =>
   clear H'
   try clear c1
   try clear p2
   try clear c3
   try clear c3b0
   try clear c3b1
   try clear c3b2
   obtain ⟨x5_1, rfl, HA, HK1, ⟨m1, rfl⟩⟩ := hrel
   cases gk with
   | zero => exact absurd HA.out (by simp [swashplatelaw01_sameInts.l0])
   | succ k1 =>
    have H := HA.out
    clear HA
    simp only [swashplatelaw01_sameInts.l0] at H
    by_cases c4 : x5_1 < (l0.length : Int)
    ·
     rw [if_pos c4] at H
     have c4b0 : decide (x5_1 < (l0.length : Int)) = true := decide_eq_true c4
     clear c4
     by_cases c5 : 0 ≤ x5_1
     ·
      rw [if_pos c5] at H
      have c5b0 : decide (0 ≤ x5_1) = true := decide_eq_true c5
      clear c5
      by_cases c6 : x5_1 < (l1.length : Int)
      ·
       rw [if_pos c6] at H
       have c6b0 : decide (x5_1 < (l1.length : Int)) = true := decide_eq_true c6
       clear c6
       by_cases c7 : (rd l0 x5_1) = (rd l1 x5_1)
       ·
        rw [if_pos c7] at H
        have c7b0 : ((rd l0 x5_1) == (rd l1 x5_1)) = true := beq_iff_eq.mpr c7
        have c7b1 : ((rd l0 x5_1) != (rd l1 x5_1)) = false := bne_eq_false_iff_eq.mpr c7
        clear c7
        have H' := Aside0.mk H
        clear H
        have p764 : 0 ≤ (x5_1 : Int) := of_decide_eq_true (by first | (with_reducible assumption) | assumption)
        have q764 : x5_1 < (l0.length : Int) := of_decide_eq_true (by first | (with_reducible assumption) | assumption)
        obtain ⟨ad764, e764, hx764_0⟩ := Kd.at_int HR0.out x5_1 p764 q764
        cases e764
        replace p764 := eq_true p764
        replace q764 := eq_true q764
        have p765 : 0 ≤ (x5_1 : Int) := of_decide_eq_true (by first | (with_reducible assumption) | assumption)
        have q765 : x5_1 < (l1.length : Int) := of_decide_eq_true (by first | (with_reducible assumption) | assumption)
        obtain ⟨ad765, e765, hx765_0⟩ := Kd.at_int HR1.out x5_1 p765 q765
        cases e765
        replace p765 := eq_true p765
        replace q765 := eq_true q765
        go_wp2
        repeat (go_quiet (fail); try go_wp2)
        go_roundg k1
        case measure => have := HK1.out; omega
        case rel => exact ⟨(wrap64 (x5_1 + 1)), (by first | rfl | (simp; done) | (simp [*]; done)), H', ⟨by have := HK1.out; omega⟩, by repeat (first | exact Drawn0.refl _ | apply Drawn0.step)⟩
       ·
        rw [if_neg c7] at H
        have c7b0 : ((rd l0 x5_1) == (rd l1 x5_1)) = false := beq_eq_false_iff_ne.mpr c7
        have c7b1 : ((rd l0 x5_1) != (rd l1 x5_1)) = true := bne_iff_ne.mpr c7
        obtain rfl := Option.some.inj H
        have p764 : 0 ≤ (x5_1 : Int) := of_decide_eq_true (by first | (with_reducible assumption) | assumption)
        have q764 : x5_1 < (l0.length : Int) := of_decide_eq_true (by first | (with_reducible assumption) | assumption)
        obtain ⟨ad764, e764, hx764_0⟩ := Kd.at_int HR0.out x5_1 p764 q764
        cases e764
        replace p764 := eq_true p764
        replace q764 := eq_true q764
        have p765 : 0 ≤ (x5_1 : Int) := of_decide_eq_true (by first | (with_reducible assumption) | assumption)
        have q765 : x5_1 < (l1.length : Int) := of_decide_eq_true (by first | (with_reducible assumption) | assumption)
        obtain ⟨ad765, e765, hx765_0⟩ := Kd.at_int HR1.out x5_1 p765 q765
        cases e765
        replace p765 := eq_true p765
        replace q765 := eq_true q765
        go_wp2
        repeat (go_quiet (fail); try go_wp2)
        go_ret
        exact ⟨by first | rfl | (simp; done) | (simp [*]; done), by repeat (first | exact Drawn0.refl _ | apply Drawn0.step)⟩
      ·
       rw [if_neg c6] at H
       exact absurd H (by simp)
     ·
      rw [if_neg c5] at H
      exact absurd H (by simp)
    ·
     rw [if_neg c4] at H
     have c4b0 : decide (x5_1 < (l0.length : Int)) = false := decide_eq_false c4
     clear c4
     obtain rfl := Option.some.inj H
     go_wp2
     go_ret
     exact ⟨by first | rfl | (simp; done) | (simp [*]; done), by repeat (first | exact Drawn0.refl _ | apply Drawn0.step)⟩
 ·
  rw [if_neg c3] at H
  have c3b0 : ((l0.length : Int) == (l1.length : Int)) = false := beq_eq_false_iff_ne.mpr c3
  have c3b1 : ((l0.length : Int) != (l1.length : Int)) = true := bne_iff_ne.mpr c3
  have c3b2 : (l0.length == l1.length) = false := by first | simpa using c3 | (simp at c3 ⊢; omega)
  obtain rfl := Option.some.inj H
  go_enter Try.func78, Try.ntmps78
  go_wp2
  go_ret
  exact ⟨by first | rfl | (simp; done) | (simp [*]; done), by repeat (first | exact Drawn0.refl _ | apply Drawn0.step)⟩
end Go.Proofs.Yteodlmgmmpkpoaa.PS
end
section
namespace Go.Proofs.Yteodlmgmmpkpoaa.PS
open Go.RowKit Go.Proofs.YteodlmgmmpkpoaaW.PrintWords Go.Proofs.YteodlmgmmpkpoaaW.PrintLast Go.Proofs.YteodlmgmmpkpoaaW.PrintMore
attribute [local go_sem] max2_int min2_int max_two min_two max_three min_three max_four min_four   -- for this text's walks alone
set_option linter.unusedVariables false
set_option linter.unusedSimpArgs false
def swashplateref01_before.l0 : Nat → List Int → List Int → Int → Option (Bool)
 | 0, _, _, _ => none
 | k + 1, x0, x1, x5 => if x5 < (x0.length : Int) then (if 0 ≤ x5 then (if x5 < (x1.length : Int) then (if (rd x0 x5) = (rd x1 x5) then (swashplateref01_before.l0 k x0 x1 (wrap64 (x5 + 1))) else (some (decide ((rd x0 x5) < (rd x1 x5))))) else (none)) else (none)) else (some false)
def swashplateref01_before.f (k : Nat) (l0 : List Int) (l1 : List Int) : Option (Bool) := swashplateref01_before.l0 k l0 l1 0
set_option maxHeartbeats 8000000 in
set_option maxRecDepth 100000 in
theorem swashplateref01_before.calls (k : Nat) (A0 : Option Addr) (c0 : Nat) (l0 : List Int) (A1 : Option Addr) (c1 : Nat) (l1 : List Int) (r : Bool) (w : World) (hr0 : Kd.C (Kd.int .i64) w A0 l0.length l0) (hc0 : l0.length ≤ c0) (hr1 : Kd.C (Kd.int .i64) w A1 l1.length l1) (hc1 : l1.length ≤ c1) (h : swashplateref01_before.f k l0 l1 = some r) :
  Calls Try.prog 141 #[.slice A0 l0.length c0, .slice A1 l1.length c1] w fun e w' => e = .returned (.bool r) ∧ Drawn0 w w' := by
 have HR0 := Aside0.mk hr0
 have HC0 := Aside0.mk hc0
 clear hr0 hc0
 have HR1 := Aside0.mk hr1
 have HC1 := Aside0.mk hc1
 clear hr1 hc1
 have H : (swashplateref01_before.l0 k l0 l1 0) = some r := h
 clear h
 have H' := Aside0.mk H
 clear H
 go_enter Try.func141, Try.ntmps141
 go_wp2
 go_loopg [5] k (fun kq v5 w' => ∃ (x5_1 : Int), v5 = .int .i64 x5_1 ∧ Aside0 (swashplateref01_before.l0 kq l0 l1 x5_1 = some r) ∧ Aside0 (kq ≤ k) ∧ Drawn0 w w')
 case atStart => exact ⟨(0), (by first | rfl | (simp; done) | (simp [*]; done)), H', ⟨Nat.le_refl _⟩, by repeat (first | exact Drawn0.refl _ | apply Drawn0.step)⟩
 case round =>
  clear H'
  try clear c1
  try clear p2
  obtain ⟨x5_1, rfl, HA, HK1, ⟨m1, rfl⟩⟩ := hrel
  cases gk with
  | zero => exact absurd HA.out (by simp [swashplateref01_before.l0])
  | succ k1 =>
   have H := HA.out
   clear HA
   simp only [swashplateref01_before.l0] at H
   by_cases c3 : x5_1 < (l0.length : Int)
   ·
    rw [if_pos c3] at H
    have c3b0 : decide (x5_1 < (l0.length : Int)) = true := decide_eq_true c3
    clear c3
    by_cases c4 : 0 ≤ x5_1
    ·
     rw [if_pos c4] at H
     have c4b0 : decide (0 ≤ x5_1) = true := decide_eq_true c4
     clear c4
     by_cases c5 : x5_1 < (l1.length : Int)
     ·
      rw [if_pos c5] at H
      have c5b0 : decide (x5_1 < (l1.length : Int)) = true := decide_eq_true c5
      clear c5
      by_cases c6 : (rd l0 x5_1) = (rd l1 x5_1)
      ·
       rw [if_pos c6] at H
       have c6b0 : ((rd l0 x5_1) == (rd l1 x5_1)) = true := beq_iff_eq.mpr c6
       have c6b1 : ((rd l0 x5_1) != (rd l1 x5_1)) = false := bne_eq_false_iff_eq.mpr c6
       clear c6
       have H' := Aside0.mk H
       clear H
       have p749 : 0 ≤ (x5_1 : Int) := of_decide_eq_true (by first | (with_reducible assumption) | assumption)
       have q749 : x5_1 < (l0.length : Int) := of_decide_eq_true (by first | (with_reducible assumption) | assumption)
       obtain ⟨ad749, e749, hx749_0⟩ := Kd.at_int HR0.out x5_1 p749 q749
       cases e749
       replace p749 := eq_true p749
       replace q749 := eq_true q749
       have p750 : 0 ≤ (x5_1 : Int) := of_decide_eq_true (by first | (with_reducible assumption) | assumption)
       have q750 : x5_1 < (l1.length : Int) := of_decide_eq_true (by first | (with_reducible assumption) | assumption)
       obtain ⟨ad750, e750, hx750_0⟩ := Kd.at_int HR1.out x5_1 p750 q750
       cases e750
       replace p750 := eq_true p750
       replace q750 := eq_true q750
       go_wp2
       repeat (go_quiet (fail); try go_wp2)
       go_roundg k1
       case measure => have := HK1.out; omega
       case rel => exact ⟨(wrap64 (x5_1 + 1)), (by first | rfl | (simp; done) | (simp [*]; done)), H', ⟨by have := HK1.out; omega⟩, by repeat (first | exact Drawn0.refl _ | apply Drawn0.step)⟩
      ·
       rw [if_neg c6] at H
       have c6b0 : ((rd l0 x5_1) == (rd l1 x5_1)) = false := beq_eq_false_iff_ne.mpr c6
       have c6b1 : ((rd l0 x5_1) != (rd l1 x5_1)) = true := bne_iff_ne.mpr c6
       obtain rfl := Option.some.inj H
       have p749 : 0 ≤ (x5_1 : Int) := of_decide_eq_true (by first | (with_reducible assumption) | assumption)
       have q749 : x5_1 < (l0.length : Int) := of_decide_eq_true (by first | (with_reducible assumption) | assumption)
       obtain ⟨ad749, e749, hx749_0⟩ := Kd.at_int HR0.out x5_1 p749 q749
       cases e749
       replace p749 := eq_true p749
       replace q749 := eq_true q749
       have p750 : 0 ≤ (x5_1 : Int) := of_decide_eq_true (by first | (with_reducible assumption) | assumption)
       have q750 : x5_1 < (l1.length : Int) := of_decide_eq_true (by first | (with_reducible assumption) | assumption)
       obtain ⟨ad750, e750, hx750_0⟩ := Kd.at_int HR1.out x5_1 p750 q750
       cases e750
       replace p750 := eq_true p750
       replace q750 := eq_true q750
       have p751 : 0 ≤ (x5_1 : Int) := of_decide_eq_true (by first | (with_reducible assumption) | assumption)
       have q751 : x5_1 < (l0.length : Int) := of_decide_eq_true (by first | (with_reducible assumption) | assumption)
       obtain ⟨ad751, e751, hx751_0⟩ := Kd.at_int HR0.out x5_1 p751 q751
       obtain rfl : ad749 = ad751 := (by injection e751)
       replace p751 := eq_true p751
       replace q751 := eq_true q751
       have p752 : 0 ≤ (x5_1 : Int) := of_decide_eq_true (by first | (with_reducible assumption) | assumption)
       have q752 : x5_1 < (l1.length : Int) := of_decide_eq_true (by first | (with_reducible assumption) | assumption)
       obtain ⟨ad752, e752, hx752_0⟩ := Kd.at_int HR1.out x5_1 p752 q752
       obtain rfl : ad750 = ad752 := (by injection e752)
       replace p752 := eq_true p752
       replace q752 := eq_true q752
       go_wp2
       repeat (go_quiet (fail); try go_wp2)
       go_ret
       exact ⟨by first | rfl | (simp; done) | (simp [*]; done), by repeat (first | exact Drawn0.refl _ | apply Drawn0.step)⟩
     ·
      rw [if_neg c5] at H
      exact absurd H (by simp)
    ·
     rw [if_neg c4] at H
     exact absurd H (by simp)
   ·
    rw [if_neg c3] at H
    have c3b0 : decide (x5_1 < (l0.length : Int)) = false := decide_eq_false c3
    clear c3
    obtain rfl := Option.some.inj H
    go_wp2
    go_ret
    exact ⟨by first | rfl | (simp; done) | (simp [*]; done), by repeat (first | exact Drawn0.refl _ | apply Drawn0.step)⟩
end Go.Proofs.Yteodlmgmmpkpoaa.PS
end
section
namespace Go.Proofs.Yteodlmgmmpkpoaa.PS
open Go.RowKit Go.Proofs.YteodlmgmmpkpoaaW.PrintWords Go.Proofs.YteodlmgmmpkpoaaW.PrintLast Go.Proofs.YteodlmgmmpkpoaaW.PrintMore
attribute [local go_sem] max2_int min2_int max_two min_two max_three min_three max_four min_four   -- for this text's walks alone
set_option linter.unusedVariables false
set_option linter.unusedSimpArgs false
mutual
def swashplateref01_Covers.j0 : Nat → List (S27) → List (List (S27)) → Bool → Option (List Int × Bool × Int)
 | 0, _, _, _ => none
 | k + 1, x0, x1, x20 => if x20 = true then (some (([] : List Int), false, 10)) else ((swashplateref01_checkList.f k x1 (x0.length : Int)).bind fun t721 => (if t721 = 0 then ((swashplateref01_leftP.f k x0 x1).bind fun t722 => (swashplateref01_Covers.l0 k x0 t722 ([] : List Int) 0)) else (some (([] : List Int), false, t721))))
def swashplateref01_Covers.l0 : Nat → List (S27) → List (List (S27)) → List Int → Int → Option (List Int × Bool × Int)
 | 0, _, _, _, _ => none
 | k + 1, x0, x8, x9, x10 => if x10 < (x8.length : Int) then (swashplateref01_Covers.l1 k x0 x8 x9 x10 ([] : List Int) 0) else (some (x9, ((x8.length : Int) == 0), 0))
def swashplateref01_Covers.l1 : Nat → List (S27) → List (List (S27)) → List Int → Int → List Int → Int → Option (List Int × Bool × Int)
 | 0, _, _, _, _, _, _ => none
 | k + 1, x0, x8, x9, x10, x11, x12 => if x12 < (x0.length : Int) then (if 0 ≤ x10 then (if x10 < (x8.length : Int) then (if 0 ≤ x12 then (if x12 < ((rd_L2 x8 x10).length : Int) then (if x11.length < 17592186044416 then (swashplateref01_Covers.l1 k x0 x8 x9 x10 (x11 ++ [(rd_T27 (rd_L2 x8 x10) x12).f0]) (wrap64 (x12 + 1))) else (none)) else (none)) else (none)) else (none)) else (none)) else (if x10 = 0 then (swashplateref01_Covers.l0 k x0 x8 x11 (wrap64 (x10 + 1))) else ((swashplateref01_before.f k x11 x9).bind fun t730 => (if t730 = true then (swashplateref01_Covers.l0 k x0 x8 x11 (wrap64 (x10 + 1))) else (swashplateref01_Covers.l0 k x0 x8 x9 (wrap64 (x10 + 1))))))
end
def swashplateref01_Covers.f (k : Nat) (l0 : List (S27)) (l1 : List (List (S27))) : Option (List Int × Bool × Int) := if (l1.length : Int) ≤ 20 then ((swashplateref01_Check.f k l0).bind fun t720 => (swashplateref01_Covers.j0 k l0 l1 (t720 != 0))) else (swashplateref01_Covers.j0 k l0 l1 false)
set_option maxHeartbeats 8000000 in
set_option maxRecDepth 100000 in
theorem swashplateref01_Covers.calls (k : Nat) (A0 : Option Addr) (c0 : Nat) (l0 : List (S27)) (A1 : Option Addr) (c1 : Nat) (l1 : List (List (S27))) (r1 : List Int) (r2 : Bool) (r3 : Int) (w : World) (hr0 : Kd.C k27 w A0 l0.length l0) (hc0 : l0.length ≤ c0) (hr1 : Kd.C (Kd.slice 27 k27) w A1 l1.length l1) (hc1 : l1.length ≤ c1) (h : swashplateref01_Covers.f k l0 l1 = some (r1, r2, r3)) :
  Calls Try.prog 77 #[.slice A0 l0.length c0, .slice A1 l1.length c1] w fun e w' => ∃ v0_ : Value, e = .returned (.tuple #[v0_, .bool r2, .int .i64 r3]) ∧ Kd.R (Kd.int .i64) 3 w' w.heap.size (fun _ => True) v0_ r1 ∧ Below w.heap.size w w' := by
 have HR0 := Aside0.mk hr0
 have HC0 := Aside0.mk hc0
 clear hr0 hc0
 have HR1 := Aside0.mk hr1
 have HC1 := Aside0.mk hc1
 clear hr1 hc1
 have HB := Aside0.mk (Below.refl w.heap.size w)
 have H : (if (l1.length : Int) ≤ 20 then ((swashplateref01_Check.f k l0).bind fun t720 => (swashplateref01_Covers.j0 k l0 l1 (t720 != 0))) else (swashplateref01_Covers.j0 k l0 l1 false)) = some (r1, r2, r3) := h
 clear h
 have HC3 := Aside0.mk H
 clear H
 go_enter Try.func77, Try.ntmps77
 go_upto_region 1 with (fail)
 go_cut [20] (fun v20 wc => ∃ (kq : Nat) (x20_2 : Bool), v20 = .bool x20_2 ∧ Aside0 (swashplateref01_Covers.j0 kq l0 l1 x20_2 = some (r1, r2, r3)) ∧ Aside0 (kq ≤ k) ∧ Aside0 (Below w.heap.size w wc))
 case first =>
  have H := HC3.out
  clear HC3
  by_cases c4 : (l1.length : Int) ≤ 20
  ·
   rw [if_pos c4] at H
   have c4b0 : decide ((l1.length : Int) ≤ 20) = true := decide_eq_true c4
   have c4b1 : decide (l1.length ≤ 20) = true := decide_eq_true (by omega)
   clear c4
   (first | rw [c4b0] | (simp only [i64_w, i32_w]; rw [c4b0]) | skip)
   replace H := Option.bind_eq_some_iff.mp H
   obtain ⟨t720, A50, H⟩ := H
   replace H : (swashplateref01_Covers.j0 k l0 l1 (t720 != 0)) = some (r1, r2, r3) := H
   have A5 := Aside0.mk A50
   clear A50
   have H' := Aside0.mk H
   clear H
   go_wp2_with (first | (go_at_call 28; (with_reducible refine (swashplateref01_Check.calls k _ _ l0 t720 _ ?side1 ?side2 A5.out).mono ?_); (case side1 => exact cr_ (Kd.C_below HR0.out HB.out)); (case side2 => exact HC0.out); rintro e w6 ⟨rfl, hb⟩; have n0_ := Aside0.mk (below_step (bl_ HB.out) hb); clear HB; have HB := n0_; clear n0_; (try clear hb); (try clear hb2); (try clear hk); (try clear hi)))
   go_meet
   case rel => exact ⟨_, ((t720 != 0)), (by first | rfl | (simp; done) | (simp [*]; done)), H', ⟨by first | omega | exact Nat.le_refl _⟩, ⟨bl_ HB.out⟩⟩
  ·
   rw [if_neg c4] at H
   have c4b0 : decide ((l1.length : Int) ≤ 20) = false := decide_eq_false c4
   have c4b1 : decide (l1.length ≤ 20) = false := decide_eq_false (by omega)
   clear c4
   (first | rw [c4b0] | (simp only [i64_w, i32_w]; rw [c4b0]) | skip)
   have H' := Aside0.mk H
   clear H
   go_wp2
   go_meet
   case rel => exact ⟨_, (false), (by first | rfl | (simp; done) | (simp [*]; done)), H', ⟨by first | omega | exact Nat.le_refl _⟩, ⟨bl_ HB.out⟩⟩
 case rest =>
  clear HC3
  try clear c1
  try clear p2
  try clear c4
  try clear c4b0
  try clear c4b1
  obtain ⟨kq, x20_2, rfl, HA, HJ2, HB⟩ := hcut
  cases kq with
  | zero => exact absurd HA.out (by simp [swashplateref01_Covers.j0])
  | succ kj2 =>
   have H := HA.out
   clear HA
   simp only [swashplateref01_Covers.j0] at H
   by_cases c7 : x20_2 = true
   ·
    subst c7
    have H1 : (some (([] : List Int), false, 10)) = some (r1, r2, r3) := by rw [if_pos rfl] at H; exact H
    clear H
    have H := H1
    clear H1
    simp only [Option.some.injEq, Prod.mk.injEq] at H
    obtain ⟨rfl, rfl, rfl⟩ := H
    go_wp2
    go_ret3
    exact ⟨_, by first | rfl | (simp [errW_none, errW_some] <;> rfl) | (simp [*, errW_none, errW_some] <;> rfl), by first | exact Kd.R_nil _ _ _ _ _ | exact Kd.N_nil _ _ _ _ _ | exact Kd.V_nil _ _ _ _ _ | exact Kd.Q_nil _ _ _ _ _ | exact Kd.S_nil _ _ _ _ _, bl_ HB.out⟩
   ·
    replace c7 := Bool.eq_false_iff.mpr c7
    subst c7
    have H1 : ((swashplateref01_checkList.f kj2 l1 (l0.length : Int)).bind fun t721 => (if t721 = 0 then ((swashplateref01_leftP.f kj2 l0 l1).bind fun t722 => (swashplateref01_Covers.l0 kj2 l0 t722 ([] : List Int) 0)) else (some (([] : List Int), false, t721)))) = some (r1, r2, r3) := by rw [if_neg (show ¬ (false = true) by decide)] at H; exact H
    clear H
    have H := H1
    clear H1
    replace H := Option.bind_eq_some_iff.mp H
    obtain ⟨t721, A80, H⟩ := H
    replace H : (if t721 = 0 then ((swashplateref01_leftP.f kj2 l0 l1).bind fun t722 => (swashplateref01_Covers.l0 kj2 l0 t722 ([] : List Int) 0)) else (some (([] : List Int), false, t721))) = some (r1, r2, r3) := H
    have A8 := Aside0.mk A80
    clear A80
    by_cases c9 : t721 = 0
    ·
     rw [if_pos c9] at H
     have c9b0 : (t721 == 0) = true := beq_iff_eq.mpr c9
     have c9b1 : (t721 != 0) = false := bne_eq_false_iff_eq.mpr c9
     clear c9
     replace H := Option.bind_eq_some_iff.mp H
     obtain ⟨t722, A100, H⟩ := H
     replace H : (swashplateref01_Covers.l0 kj2 l0 t722 ([] : List Int) 0) = some (r1, r2, r3) := H
     have A10 := Aside0.mk A100
     clear A100
     have H' := Aside0.mk H
     clear H
     go_wp2_with (first | ((with_reducible refine gate_callee (f := 125) rfl ?_); refine goesL_ (some 24) rfl rfl Try.func125 (by kernel_rfl) rfl #[.slice A1 l1.length c1, .int .i64 (l0.length : Int)] rfl (by (try simp only [List.map_toArray, List.map_cons, List.map_nil]); first | done | rfl | (simp only [List.length_drop, List.length_take]; rfl)) ?_; (with_reducible refine (swashplateref01_checkList.calls kj2 _ _ l1 (l0.length : Int) t721 _ ?side1 ?side2 A8.out).mono ?_); (case side1 => exact cr_ (Kd.C_below HR1.out HB.out)); (case side2 => exact HC1.out); rintro e w11 ⟨rfl, hb⟩; refine ⟨_, rfl, ?_⟩; have n0_ := Aside0.mk (below_step (bl_ HB.out) hb); clear HB; have HB := n0_; clear n0_; (try clear hb); (try clear hb2); (try clear hk); (try clear hi)) | ((with_reducible refine gate_callee (f := 126) rfl ?_); refine goesL_ (some 30) rfl rfl Try.func126 (by kernel_rfl) rfl #[.slice A0 l0.length c0, .slice A1 l1.length c1] rfl (by (try simp only [List.map_toArray, List.map_cons, List.map_nil]); first | done | rfl | (simp only [List.length_drop, List.length_take]; rfl)) ?_; (with_reducible refine (swashplateref01_leftP.calls kj2 (fun k_ => k_ < w.heap.size) _ _ l0 _ _ l1 t722 _ ?side1 ?side2 ?side3 A10.out).mono ?_); (case side1 => exact Kd.V_mk HC0.out (Kd.F_below (Kd.C_F k27_heap HR0.out) (bl_ HB.out))); (case side2 => exact cr_ (Kd.C_below HR1.out HB.out)); (case side3 => exact HC1.out); rintro e w12 ⟨v723, rfl, ho0, hb⟩; refine ⟨_, rfl, ?_⟩; have n0_ := Aside0.mk (Kd.N_lower (Kd.N_mono (ok' := fun k_ => True) ho0 (fun k_ hk_ => trivial)) (below_size (bl_ HB.out))); have n1_ := Aside0.mk (below_step (bl_ HB.out) hb); clear HB; have HO724 := n0_; have HB := n1_; clear n0_ n1_; (try clear hb); (try clear hb2); (try clear hk); (try clear hi); (try clear ho0)))
     go_loopg [9, 10] kj2 (fun kq v9 v10 w' => ∃ (x9_2 : List Int) (x10_2 : Int), v10 = .int .i64 x10_2 ∧ Aside0 (swashplateref01_Covers.l0 kq l0 t722 x9_2 x10_2 = some (r1, r2, r3)) ∧ Aside0 (kq ≤ kj2) ∧ Aside0 (Kd.N (Kd.slice 27 k27) 38 w' w.heap.size (fun k_ => some k_ ≠ (v9 : Value).ownBlock) v723 t722) ∧ Aside0 (Kd.R (Kd.int .i64) 3 w' w.heap.size (fun _ => True) v9 x9_2) ∧ Aside0 (Below w.heap.size w w'))
     case atStart => exact ⟨(([] : List Int)), (0), (by first | rfl | (simp; done) | (simp [*]; done)), H', ⟨Nat.le_refl _⟩, ⟨by (with_reducible repeat (first | apply Kd.N_alloc | apply Kd.N_drewN | apply Kd.N_drew)); exact Kd.N_mono HO724.out (fun _ hk => (by simp [Value.ownBlock]))⟩, ⟨by first | exact Kd.R_nil _ _ _ _ _ | exact Kd.N_nil _ _ _ _ _ | exact Kd.V_nil _ _ _ _ _ | exact Kd.Q_nil _ _ _ _ _ | exact Kd.S_nil _ _ _ _ _⟩, ⟨bl_ HB.out⟩⟩
     case round =>
      clear H'
      try clear c1
      try clear p2
      try clear c4
      try clear c4b0
      try clear c4b1
      try clear c7
      try clear c9
      try clear c9b0
      try clear c9b1
      try clear c12
      try clear p2
      obtain ⟨x9_2, x10_2, rfl, HA, HK2, HO_8, HO_9, HB⟩ := hrel
      cases gk with
      | zero => exact absurd HA.out (by simp [swashplateref01_Covers.l0])
      | succ k2 =>
       have H := HA.out
       clear HA
       simp only [swashplateref01_Covers.l0] at H
       by_cases c13 : x10_2 < (t722.length : Int)
       ·
        rw [if_pos c13] at H
        have c13b0 : decide (x10_2 < (t722.length : Int)) = true := decide_eq_true c13
        clear c13
        have H' := Aside0.mk H
        clear H
        obtain ⟨Ao14, co14, eo14⟩ := Kd.N_slice HO_8.out
        subst eo14
        go_wp2
        go_loopg [11, 12] k2 (fun kq v11 v12 w' => ∃ (x11_3 : List Int) (x12_3 : Int), v12 = .int .i64 x12_3 ∧ Aside0 (swashplateref01_Covers.l1 kq l0 t722 x9_2 x10_2 x11_3 x12_3 = some (r1, r2, r3)) ∧ Aside0 (kq ≤ k2) ∧ Aside0 (Kd.N (Kd.slice 27 k27) 38 w' w.heap.size (fun k_ => some k_ ≠ (u9 : Value).ownBlock ∧ some k_ ≠ (v11 : Value).ownBlock) (.slice Ao14 t722.length co14) t722) ∧ Aside0 (Kd.R (Kd.int .i64) 3 w' w.heap.size (fun k_ => some k_ ≠ (v11 : Value).ownBlock) u9 x9_2) ∧ Aside0 (Kd.R (Kd.int .i64) 3 w' w.heap.size (fun k_ => some k_ ≠ (u9 : Value).ownBlock) v11 x11_3) ∧ Aside0 (Below w.heap.size w w'))
        case atStart => exact ⟨(([] : List Int)), (0), (by first | rfl | (simp; done) | (simp [*]; done)), H', ⟨Nat.le_refl _⟩, ⟨by (with_reducible repeat (first | apply Kd.N_alloc | apply Kd.N_drewN | apply Kd.N_drew)); exact Kd.N_mono HO_8.out (fun _ hk => ⟨hk, (by simp [Value.ownBlock])⟩)⟩, ⟨by (with_reducible repeat (first | apply Kd.R_alloc | apply Kd.R_drewN | apply Kd.R_drew)); exact Kd.R_mono HO_9.out (fun _ hk => (by simp [Value.ownBlock]))⟩, ⟨by first | exact Kd.R_nil _ _ _ _ _ | exact Kd.N_nil _ _ _ _ _ | exact Kd.V_nil _ _ _ _ _ | exact Kd.Q_nil _ _ _ _ _ | exact Kd.S_nil _ _ _ _ _⟩, ⟨bl_ HB.out⟩⟩
        case round =>
         clear H'
         try clear c1
         try clear p2
         try clear c4
         try clear c4b0
         try clear c4b1
         try clear c7
         try clear c9
         try clear c9b0
         try clear c9b1
         try clear c12
         try clear c13
         try clear c13b0
         try clear p2
         obtain ⟨x11_3, x12_3, rfl, HA, HK3, HO_8, HO_9, HO_11, HB⟩ := hrel
         cases gk with
         | zero => exact absurd HA.out (by simp [swashplateref01_Covers.l1])
         | succ k3 =>
          have H := HA.out
          clear HA
          simp only [swashplateref01_Covers.l1] at H
          by_cases c15 : x12_3 < (l0.length : Int)
          ·
           rw [if_pos c15] at H
           have c15b0 : decide (x12_3 < (l0.length : Int)) = true := decide_eq_true c15
           clear c15
           by_cases c16 : 0 ≤ x10_2
           ·
            rw [if_pos c16] at H
            have c16b0 : decide (0 ≤ x10_2) = true := decide_eq_true c16
            clear c16
            by_cases c17 : x10_2 < (t722.length : Int)
            ·
             rw [if_pos c17] at H
             have c17b0 : decide (x10_2 < (t722.length : Int)) = true := decide_eq_true c17
             clear c17
             by_cases c18 : 0 ≤ x12_3
             ·
              rw [if_pos c18] at H
              have c18b0 : decide (0 ≤ x12_3) = true := decide_eq_true c18
              clear c18
              by_cases c19 : x12_3 < ((rd_L2 t722 x10_2).length : Int)
              ·
               rw [if_pos c19] at H
               have c19b0 : decide (x12_3 < ((rd_L2 t722 x10_2).length : Int)) = true := decide_eq_true c19
               clear c19
               by_cases c20 : x11_3.length < 17592186044416
               ·
                rw [if_pos c20] at H
                have LMc20 := Aside0.mk c20
                clear c20
                obtain ⟨y727, hy727⟩ : ∃ y_ : List Int, y_ = (x11_3 ++ [(rd_T27 (rd_L2 t722 x10_2) x12_3).f0]) := ⟨_, rfl⟩
                replace H : (swashplateref01_Covers.l1 k3 l0 t722 x9_2 x10_2 y727 (wrap64 (x12_3 + 1))) = some (r1, r2, r3) := by first | (rw [hy727]; with_reducible exact H) | (have H2_ := (Option.bind_some _ _).symm.trans H; rw [hy727]; with_reducible exact H2_) | (have H2_ := (Option.bind_some _ _).symm.trans H; with_reducible exact H2_) | with_reducible exact H | (rw [hy727]; exact H) | exact H
                have Ny727 := Aside0.mk hy727
                clear hy727
                have H' := Aside0.mk H
                clear H
                have p725 : 0 ≤ (x10_2 : Int) := of_decide_eq_true (by first | (with_reducible assumption) | assumption)
                have q725 : x10_2 < (t722.length : Int) := of_decide_eq_true (by first | (with_reducible assumption) | assumption)
                obtain ⟨ad725, A725_0, c725_0, e725, hx725_0, hl725_0, hi725_0⟩ := at_L2 (Kd.N_reads' HO_8.out).2.2 x10_2 p725 q725
                cases e725
                obtain ⟨ce725, hce725, hMe725, hcc725⟩ := Kd.N_get HO_8.out [] x10_2 p725 (by first | exact q725 | exact of_decide_eq_true (by first | (with_reducible assumption) | assumption) | (have e_ := (Kd.N_reads' HO_8.out).1; omega))
                obtain ⟨ua725_0, uc725_0, rfl, ul725_0, ge725_0⟩ := Kd.FK_slice_open hMe725
                have hv725_0 := hcc725 0 _ rfl
                rw [Nat.add_zero, show ((Kd.slice 27 k27)).sz = 1 from rfl, Nat.mul_one] at hv725_0
                replace hv725_0 := Option.some.inj (hv725_0.symm.trans hx725_0)
                injection hv725_0 with hva_ hvn_ hvc_
                rw [hva_] at ge725_0
                rw [hvc_] at ul725_0
                have HL725_0 := Aside0.mk (show Kd.V k27 27 _ w.heap.size _ _ (rd_L2 t722 x10_2) from Kd.V_mk ul725_0 ge725_0)
                clear hva_ hvn_ hvc_ ge725_0 ul725_0 hcc725 hce725
                have HR725_0 := Aside0.mk hi725_0
                have HC725_0 := Aside0.mk hl725_0
                clear hi725_0 hl725_0
                replace p725 := eq_true p725
                replace q725 := eq_true q725
                have p726 : 0 ≤ (x12_3 : Int) := of_decide_eq_true (by first | (with_reducible assumption) | assumption)
                have q726 : x12_3 < ((rd_L2 t722 x10_2).length : Int) := of_decide_eq_true (by first | (with_reducible assumption) | assumption)
                obtain ⟨ad726, e726, hx726_0, hx726_1⟩ := at_T27 (by repeat (first | (with_reducible exact HR725_0.out) | (with_reducible refine Kd.C_alloc ?_ _) | (with_reducible refine Kd.C_drewN ?_ _) | (with_reducible refine Kd.C_drew ?_) | exact HR725_0.out)) x12_3 p726 q726
                cases e726
                replace p726 := eq_true p726
                replace q726 := eq_true q726
                go_wp2_with (first | ((with_reducible refine gate_builtin (b := .append) (xs := #[.tmp 43, .tmp 52]) rfl ?_); at_builtin; refine Kd.R_append (Kd.int .i64) (w0 := w) w.heap.size rfl (.tmp 43) (.tmp 52) 22 3 (.int .i64 0) 8 rfl Try.underlying22 info3 rfl (by decide) (by omega) u11 x11_3 ((rd_T27 (rd_L2 t722 x10_2) x12_3).f0) [.int .i64 ((rd_T27 (rd_L2 t722 x10_2) x12_3).f0)] (fun k_ => some k_ ≠ (u9 : Value).ownBlock) (fun _ => False) rfl rfl ?aP (fun _ hk => hk.elim) ?aF ?aO ?aB ?aS ?aL ?_; (case aP => exact rfl); (case aB => exact (bl_ HB.out)); (case aF => exact (fun k_ hk => Kd.fresh' (Kd.R_lt (by (with_reducible repeat (first | apply Kd.R_alloc | apply Kd.R_drewN | apply Kd.R_drew)); exact HO_9.out)) k_ hk)); (case aO => exact (by (with_reducible repeat (first | apply Kd.R_alloc | apply Kd.R_drewN | apply Kd.R_drew)); exact HO_11.out)); (case aS => exact (below_size (bl_ HB.out))); (case aL => have := LMc20.out; omega); intro v728 w21 ho hb hg hat; rw [← Ny727.out] at ho; have n0_ := Aside0.mk (Kd.N_afterv (ok := (fun k_ => some k_ ≠ (u9 : Value).ownBlock)) (by (with_reducible repeat (first | apply Kd.N_alloc | apply Kd.N_drewN | apply Kd.N_drew)); exact HO_8.out) hg hat); have n1_ := Aside0.mk (Kd.R_after (ok := (fun _ => True)) (by (with_reducible repeat (first | apply Kd.R_alloc | apply Kd.R_drewN | apply Kd.R_drew)); exact Kd.R_mono HO_9.out (fun _ hk => ⟨trivial, hk⟩)) hg hat); have n2_ := Aside0.mk (Kd.V_afterv (ok := (fun k_ => some k_ ≠ (.slice (some ad725) t722.length co14 : Value).ownBlock ∧ some k_ ≠ (u9 : Value).ownBlock)) (by (with_reducible repeat (first | apply Kd.V_alloc | apply Kd.V_drewN | apply Kd.V_drew)); exact Kd.V_mono HL725_0.out (fun _ hk => ⟨⟨hk.2, hk.1.1⟩, hk.1.2⟩)) hg hat); have n3_ := Aside0.mk (hb); have n4_ := Aside0.mk (ho); clear HO_8 HO_9 HL725_0 HB HO_11; have HO_8 := n0_; have HO_9 := n1_; have HL725_0 := n2_; have HB := n3_; have HO729 := n4_; clear n0_ n1_ n2_ n3_ n4_ ho hb hg hat))
                go_roundg k3
                case measure => have := HJ2.out; have := HK2.out; have := HK3.out; omega
                case rel => exact ⟨(y727), (wrap64 (x12_3 + 1)), (by first | rfl | (simp; done) | (simp [*]; done)), H', ⟨by have := HJ2.out; have := HK2.out; have := HK3.out; omega⟩, ⟨by (with_reducible repeat (first | apply Kd.N_alloc | apply Kd.N_drewN | apply Kd.N_drew)); exact HO_8.out⟩, ⟨by (with_reducible repeat (first | apply Kd.R_alloc | apply Kd.R_drewN | apply Kd.R_drew)); exact Kd.R_mono HO_9.out (fun _ hk => hk.2)⟩, ⟨by (with_reducible repeat (first | apply Kd.R_alloc | apply Kd.R_drewN | apply Kd.R_drew)); exact HO729.out⟩, ⟨bl_ HB.out⟩⟩
               ·
                rw [if_neg c20] at H
                exact absurd H (by simp)
              ·
               rw [if_neg c19] at H
               exact absurd H (by simp)
             ·
              rw [if_neg c18] at H
              exact absurd H (by simp)
            ·
             rw [if_neg c17] at H
             exact absurd H (by simp)
           ·
            rw [if_neg c16] at H
            exact absurd H (by simp)
          ·
           rw [if_neg c15] at H
           have c15b0 : decide (x12_3 < (l0.length : Int)) = false := decide_eq_false c15
           clear c15
           by_cases c22 : x10_2 = 0
           ·
            rw [if_pos c22] at H
            have c22b0 : (x10_2 == 0) = true := beq_iff_eq.mpr c22
            have c22b1 : (x10_2 != 0) = false := bne_eq_false_iff_eq.mpr c22
            clear c22
            have H' := Aside0.mk H
            clear H
            go_wp2
            go_roundg k3
            case measure => have := HJ2.out; have := HK2.out; have := HK3.out; omega
            case rel => exact ⟨(x11_3), (wrap64 (x10_2 + 1)), (by first | rfl | (simp; done) | (simp [*]; done)), H', ⟨by have := HJ2.out; have := HK2.out; have := HK3.out; omega⟩, ⟨by (with_reducible repeat (first | apply Kd.N_alloc | apply Kd.N_drewN | apply Kd.N_drew)); exact Kd.N_mono HO_8.out (fun _ hk => hk.2)⟩, ⟨by (with_reducible repeat (first | apply Kd.R_alloc | apply Kd.R_drewN | apply Kd.R_drew)); exact Kd.R_mono HO_11.out (fun _ hk => trivial)⟩, ⟨bl_ HB.out⟩⟩
           ·
            rw [if_neg c22] at H
            have c22b0 : (x10_2 == 0) = false := beq_eq_false_iff_ne.mpr c22
            have c22b1 : (x10_2 != 0) = true := bne_iff_ne.mpr c22
            replace H := Option.bind_eq_some_iff.mp H
            obtain ⟨t730, A230, H⟩ := H
            replace H : (if t730 = true then (swashplateref01_Covers.l0 k3 l0 t722 x11_3 (wrap64 (x10_2 + 1))) else (swashplateref01_Covers.l0 k3 l0 t722 x9_2 (wrap64 (x10_2 + 1)))) = some (r1, r2, r3) := H
            have A23 := Aside0.mk A230
            clear A230
            by_cases c24 : t730 = true
            ·
             subst c24
             have H1 : (swashplateref01_Covers.l0 k3 l0 t722 x11_3 (wrap64 (x10_2 + 1))) = some (r1, r2, r3) := by rw [if_pos rfl] at H; exact H
             clear H
             have H := H1
             clear H1
             have H' := Aside0.mk H
             clear H
             obtain ⟨Ao25, co25, eo25⟩ := Kd.R_slice HO_11.out
             subst eo25
             obtain ⟨Ao26, co26, eo26⟩ := Kd.R_slice HO_9.out
             subst eo26
             go_wp2_with (first | (go_at_call 141; (with_reducible refine (swashplateref01_before.calls k3 _ _ x11_3 _ _ x9_2 true _ ?side1 ?side2 ?side3 ?side4 A23.out).mono ?_); (case side1 => exact cr_ (Kd.R_reads' HO_11.out).2.2); (case side2 => exact (Kd.R_reads' HO_11.out).2.1); (case side3 => exact cr_ (Kd.R_reads' HO_9.out).2.2); (case side4 => exact (Kd.R_reads' HO_9.out).2.1); rintro e w' ⟨rfl, ⟨nd, rfl⟩⟩))
             go_roundg k3
             case measure => have := HJ2.out; have := HK2.out; have := HK3.out; omega
             case rel => exact ⟨(x11_3), (wrap64 (x10_2 + 1)), (by first | rfl | (simp; done) | (simp [*]; done)), H', ⟨by have := HJ2.out; have := HK2.out; have := HK3.out; omega⟩, ⟨by (with_reducible repeat (first | apply Kd.N_alloc | apply Kd.N_drewN | apply Kd.N_drew)); exact Kd.N_mono HO_8.out (fun _ hk => hk.2)⟩, ⟨by (with_reducible repeat (first | apply Kd.R_alloc | apply Kd.R_drewN | apply Kd.R_drew)); exact Kd.R_mono HO_11.out (fun _ hk => trivial)⟩, ⟨bl_ HB.out⟩⟩
            ·
             replace c24 := Bool.eq_false_iff.mpr c24
             subst c24
             have H1 : (swashplateref01_Covers.l0 k3 l0 t722 x9_2 (wrap64 (x10_2 + 1))) = some (r1, r2, r3) := by rw [if_neg (show ¬ (false = true) by decide)] at H; exact H
             clear H
             have H := H1
             clear H1
             have H' := Aside0.mk H
             clear H
             obtain ⟨Ao27, co27, eo27⟩ := Kd.R_slice HO_11.out
             subst eo27
             obtain ⟨Ao28, co28, eo28⟩ := Kd.R_slice HO_9.out
             subst eo28
             go_wp2_with (first | (go_at_call 141; (with_reducible refine (swashplateref01_before.calls k3 _ _ x11_3 _ _ x9_2 false _ ?side1 ?side2 ?side3 ?side4 A23.out).mono ?_); (case side1 => exact cr_ (Kd.R_reads' HO_11.out).2.2); (case side2 => exact (Kd.R_reads' HO_11.out).2.1); (case side3 => exact cr_ (Kd.R_reads' HO_9.out).2.2); (case side4 => exact (Kd.R_reads' HO_9.out).2.1); rintro e w' ⟨rfl, ⟨nd, rfl⟩⟩))
             go_roundg k3
             case measure => have := HJ2.out; have := HK2.out; have := HK3.out; omega
             case rel => exact ⟨(x9_2), (wrap64 (x10_2 + 1)), (by first | rfl | (simp; done) | (simp [*]; done)), H', ⟨by have := HJ2.out; have := HK2.out; have := HK3.out; omega⟩, ⟨by (with_reducible repeat (first | apply Kd.N_alloc | apply Kd.N_drewN | apply Kd.N_drew)); exact Kd.N_mono HO_8.out (fun _ hk => hk.1)⟩, ⟨by (with_reducible repeat (first | apply Kd.R_alloc | apply Kd.R_drewN | apply Kd.R_drew)); exact Kd.R_mono HO_9.out (fun _ hk => trivial)⟩, ⟨bl_ HB.out⟩⟩
       ·
        rw [if_neg c13] at H
        have c13b0 : decide (x10_2 < (t722.length : Int)) = false := decide_eq_false c13
        clear c13
        simp only [Option.some.injEq, Prod.mk.injEq] at H
        obtain ⟨rfl, rfl, rfl⟩ := H
        obtain ⟨Ao29, co29, eo29⟩ := Kd.N_slice HO_8.out
        subst eo29
        go_wp2
        go_ret3
        exact ⟨_, by first | rfl | (simp [errW_none, errW_some] <;> rfl) | (simp [*, errW_none, errW_some] <;> rfl), by (with_reducible repeat (first | apply Kd.R_alloc | apply Kd.R_drewN | apply Kd.R_drew)); exact HO_9.out, bl_ HB.out⟩
    ·
     rw [if_neg c9] at H
     have c9b0 : (t721 == 0) = false := beq_eq_false_iff_ne.mpr c9
     have c9b1 : (t721 != 0) = true := bne_iff_ne.mpr c9
     simp only [Option.some.injEq, Prod.mk.injEq] at H
     obtain ⟨rfl, rfl, rfl⟩ := H
     go_wp2_with (first | ((with_reducible refine gate_callee (f := 125) rfl ?_); refine goesL_ (some 24) rfl rfl Try.func125 (by kernel_rfl) rfl #[.slice A1 l1.length c1, .int .i64 (l0.length : Int)] rfl (by (try simp only [List.map_toArray, List.map_cons, List.map_nil]); first | done | rfl | (simp only [List.length_drop, List.length_take]; rfl)) ?_; (with_reducible refine (swashplateref01_checkList.calls kj2 _ _ l1 (l0.length : Int) t721 _ ?side1 ?side2 A8.out).mono ?_); (case side1 => exact cr_ (Kd.C_below HR1.out HB.out)); (case side2 => exact HC1.out); rintro e w30 ⟨rfl, hb⟩; refine ⟨_, rfl, ?_⟩; have n0_ := Aside0.mk (below_step (bl_ HB.out) hb); clear HB; have HB := n0_; clear n0_; (try clear hb); (try clear hb2); (try clear hk); (try clear hi)))
     go_ret3
     exact ⟨_, by first | rfl | (simp [errW_none, errW_some] <;> rfl) | (simp [*, errW_none, errW_some] <;> rfl), by first | exact Kd.R_nil _ _ _ _ _ | exact Kd.N_nil _ _ _ _ _ | exact Kd.V_nil _ _ _ _ _ | exact Kd.Q_nil _ _ _ _ _ | exact Kd.S_nil _ _ _ _ _, bl_ HB.out⟩
end Go.Proofs.Yteodlmgmmpkpoaa.PS
end
section
namespace Go.Proofs.Yteodlmgmmpkpoaa.PS
open Go.RowKit Go.Proofs.YteodlmgmmpkpoaaW.PrintWords Go.Proofs.YteodlmgmmpkpoaaW.PrintLast Go.Proofs.YteodlmgmmpkpoaaW.PrintMore
attribute [local go_sem] max2_int min2_int max_two min_two max_three min_three max_four min_four   -- for this text's walks alone
set_option linter.unusedVariables false
set_option linter.unusedSimpArgs false
def swashplatelaw01_SpansCovers.j0 : Nat → List (S27) → List (List (S27)) → Bool → Option (Bool)
 | 0, _, _, _ => none
 | k + 1, x0, x1, x27 => if x27 = true then ((swashplatelaw01_works.f k).bind fun t767 => (some t767)) else ((swashplatelaw01_box.f x0).bind fun t768 => ((swashplateref01_CopyBoxes.f k x1).bind fun t771 => ((spans_CoversP.f t768 t771).bind fun bt774 => ((swashplateref01_Covers.f k x0 x1).bind fun bt779 => ((swashplatelaw01_sameInts.f k bt774.1 bt779.1).bind fun t784 => (if t784 = true then (if (bt774.2.1 == bt779.2.1) = true then (if bt774.2.2 = bt779.2.2 then ((swashplatelaw01_works.f k).bind fun t785 => (some t785)) else (some false)) else (some false)) else (some false)))))))
def swashplatelaw01_SpansCovers.f (k : Nat) (l0 : List (S27)) (l1 : List (List (S27))) : Option (Bool) := if (l0.length : Int) > 6 then (swashplatelaw01_SpansCovers.j0 k l0 l1 true) else ((swashplatelaw01_farBoxes.f k l1).bind fun t766 => (if t766 = true then (swashplatelaw01_SpansCovers.j0 k l0 l1 true) else (if (l1.length : Int) > 8 then (swashplatelaw01_SpansCovers.j0 k l0 l1 (decide ((l1.length : Int) ≤ 20))) else (swashplatelaw01_SpansCovers.j0 k l0 l1 false))))
set_option maxHeartbeats 8000000 in
set_option maxRecDepth 100000 in
theorem swashplatelaw01_SpansCovers.calls (k : Nat) (A0 : Option Addr) (c0 : Nat) (l0 : List (S27)) (A1 : Option Addr) (c1 : Nat) (l1 : List (List (S27))) (r : Bool) (w : World) (hr0 : Kd.C k27 w A0 l0.length l0) (hc0 : l0.length ≤ c0) (hr1 : Kd.C (Kd.slice 27 k27) w A1 l1.length l1) (hc1 : l1.length ≤ c1) (h : swashplatelaw01_SpansCovers.f k l0 l1 = some r) (hrT : Aside0 (r = true)) :
  Calls Try.prog 17 #[.slice A0 l0.length c0, .slice A1 l1.length c1] w fun e w' => e = .returned (.bool r) ∧ Below w.heap.size w w' := by
 have HR0 := Aside0.mk hr0
 have HC0 := Aside0.mk hc0
 clear hr0 hc0
 have HR1 := Aside0.mk hr1
 have HC1 := Aside0.mk hc1
 clear hr1 hc1
 have HB := Aside0.mk (Below.refl w.heap.size w)
 have H : (if (l0.length : Int) > 6 then (swashplatelaw01_SpansCovers.j0 k l0 l1 true) else ((swashplatelaw01_farBoxes.f k l1).bind fun t766 => (if t766 = true then (swashplatelaw01_SpansCovers.j0 k l0 l1 true) else (if (l1.length : Int) > 8 then (swashplatelaw01_SpansCovers.j0 k l0 l1 (decide ((l1.length : Int) ≤ 20))) else (swashplatelaw01_SpansCovers.j0 k l0 l1 false))))) = some r := h
 clear h
 have HC3 := Aside0.mk H
 clear H
 go_enter Try.func17, Try.ntmps17
 go_upto_region 1 with (fail)
 go_cut [27] (fun v27 wc => ∃ (kq : Nat) (x27_2 : Bool), v27 = .bool x27_2 ∧ Aside0 (swashplatelaw01_SpansCovers.j0 kq l0 l1 x27_2 = some r) ∧ Aside0 (kq ≤ k) ∧ Aside0 (Below w.heap.size w wc))
 case first =>
  have H := HC3.out
  clear HC3
  by_cases c4 : (l0.length : Int) > 6
  ·
   rw [if_pos c4] at H
   have c4b0 : decide (6 < (l0.length : Int)) = true := decide_eq_true c4
   have c4b1 : decide (6 < l0.length) = true := decide_eq_true (by omega)
   clear c4
   (first | rw [c4b0] | (simp only [i64_w, i32_w]; rw [c4b0]) | skip)
   have H' := Aside0.mk H
   clear H
   go_wp2
   go_meet
   case rel => exact ⟨_, (true), (by first | rfl | (simp; done) | (simp [*]; done)), H', ⟨by first | omega | exact Nat.le_refl _⟩, ⟨bl_ HB.out⟩⟩
  ·
   rw [if_neg c4] at H
   have c4b0 : decide (6 < (l0.length : Int)) = false := decide_eq_false c4
   have c4b1 : decide (6 < l0.length) = false := decide_eq_false (by omega)
   clear c4
   (first | rw [c4b0] | (simp only [i64_w, i32_w]; rw [c4b0]) | skip)
   replace H := Option.bind_eq_some_iff.mp H
   obtain ⟨t766, A50, H⟩ := H
   replace H : (if t766 = true then (swashplatelaw01_SpansCovers.j0 k l0 l1 true) else (if (l1.length : Int) > 8 then (swashplatelaw01_SpansCovers.j0 k l0 l1 (decide ((l1.length : Int) ≤ 20))) else (swashplatelaw01_SpansCovers.j0 k l0 l1 false))) = some r := H
   have A5 := Aside0.mk A50
   clear A50
   by_cases c6 : t766 = true
   ·
    subst c6
    have H1 : (swashplatelaw01_SpansCovers.j0 k l0 l1 true) = some r := by rw [if_pos rfl] at H; exact H
    clear H
    have H := H1
    clear H1
    have H' := Aside0.mk H
    clear H
    go_wp2_with (first | (go_at_call 64; (with_reducible refine (swashplatelaw01_farBoxes.calls k _ _ l1 true _ ?side1 ?side2 A5.out).mono ?_); (case side1 => exact cr_ (Kd.C_below HR1.out HB.out)); (case side2 => exact HC1.out); rintro e w' ⟨rfl, ⟨nd, rfl⟩⟩))
    go_meet
    case rel => exact ⟨_, (true), (by first | rfl | (simp; done) | (simp [*]; done)), H', ⟨by first | omega | exact Nat.le_refl _⟩, ⟨bl_ HB.out⟩⟩
   ·
    replace c6 := Bool.eq_false_iff.mpr c6
    subst c6
    have H1 : (if (l1.length : Int) > 8 then (swashplatelaw01_SpansCovers.j0 k l0 l1 (decide ((l1.length : Int) ≤ 20))) else (swashplatelaw01_SpansCovers.j0 k l0 l1 false)) = some r := by rw [if_neg (show ¬ (false = true) by decide)] at H; exact H
    clear H
    have H := H1
    clear H1
    by_cases c7 : (l1.length : Int) > 8
    ·
     rw [if_pos c7] at H
     have c7b0 : decide (8 < (l1.length : Int)) = true := decide_eq_true c7
     have c7b1 : decide (8 < l1.length) = true := decide_eq_true (by omega)
     clear c7
     have H' := Aside0.mk H
     clear H
     go_wp2_with (first | (go_at_call 64; (with_reducible refine (swashplatelaw01_farBoxes.calls k _ _ l1 false _ ?side1 ?side2 A5.out).mono ?_); (case side1 => exact cr_ (Kd.C_below HR1.out HB.out)); (case side2 => exact HC1.out); rintro e w' ⟨rfl, ⟨nd, rfl⟩⟩))
     go_meet
     case rel => exact ⟨_, (decide ((l1.length : Int) ≤ 20)), (by first | rfl | (simp; done) | (simp [*]; done)), H', ⟨by first | omega | exact Nat.le_refl _⟩, ⟨bl_ HB.out⟩⟩
    ·
     rw [if_neg c7] at H
     have c7b0 : decide (8 < (l1.length : Int)) = false := decide_eq_false c7
     have c7b1 : decide (8 < l1.length) = false := decide_eq_false (by omega)
     clear c7
     have H' := Aside0.mk H
     clear H
     go_wp2_with (first | (go_at_call 64; (with_reducible refine (swashplatelaw01_farBoxes.calls k _ _ l1 false _ ?side1 ?side2 A5.out).mono ?_); (case side1 => exact cr_ (Kd.C_below HR1.out HB.out)); (case side2 => exact HC1.out); rintro e w' ⟨rfl, ⟨nd, rfl⟩⟩))
     go_meet
     case rel => exact ⟨_, (false), (by first | rfl | (simp; done) | (simp [*]; done)), H', ⟨by first | omega | exact Nat.le_refl _⟩, ⟨bl_ HB.out⟩⟩
 case rest =>
  clear HC3
  try clear c1
  try clear p2
  try clear c4
  try clear c4b0
  try clear c4b1
  try clear c6
  try clear c7
  try clear c7b0
  try clear c7b1
  obtain ⟨kq, x27_2, rfl, HA, HJ2, HB⟩ := hcut
  cases kq with
  | zero => exact absurd HA.out (by simp [swashplatelaw01_SpansCovers.j0])
  | succ kj2 =>
   have H := HA.out
   clear HA
   simp only [swashplatelaw01_SpansCovers.j0] at H
   by_cases c8 : x27_2 = true
   ·
    subst c8
    have H1 : ((swashplatelaw01_works.f kj2).bind fun t767 => (some t767)) = some r := by rw [if_pos rfl] at H; exact H
    clear H
    have H := H1
    clear H1
    replace H := Option.bind_eq_some_iff.mp H
    obtain ⟨t767, A90, H⟩ := H
    replace H : (some t767) = some r := H
    have A9 := Aside0.mk A90
    clear A90
    obtain rfl := Option.some.inj H
    go_wp2_with (first | ((with_reducible refine gate_callee (f := 22) rfl ?_); refine goesL_ (some 28) rfl rfl Try.func22 (by kernel_rfl) rfl #[] rfl (by (try simp only [List.map_toArray, List.map_cons, List.map_nil]); first | done | rfl | (simp only [List.length_drop, List.length_take]; rfl)) ?_; (with_reducible refine (swashplatelaw01_works.calls kj2  t767 _ A9.out).mono ?_); rintro e w10 ⟨rfl, hb⟩; refine ⟨_, rfl, ?_⟩; have n0_ := Aside0.mk (below_step (bl_ HB.out) hb); clear HB; have HB := n0_; clear n0_; (try clear hb); (try clear hb2); (try clear hk); (try clear hi)))
    go_ret
    exact ⟨by first | rfl | (simp [errW_none, errW_some] <;> rfl) | (simp [*, errW_none, errW_some] <;> rfl), bl_ HB.out⟩
   ·
    replace c8 := Bool.eq_false_iff.mpr c8
    subst c8
    have H1 : ((swashplatelaw01_box.f l0).bind fun t768 => ((swashplateref01_CopyBoxes.f kj2 l1).bind fun t771 => ((spans_CoversP.f t768 t771).bind fun bt774 => ((swashplateref01_Covers.f kj2 l0 l1).bind fun bt779 => ((swashplatelaw01_sameInts.f kj2 bt774.1 bt779.1).bind fun t784 => (if t784 = true then (if (bt774.2.1 == bt779.2.1) = true then (if bt774.2.2 = bt779.2.2 then ((swashplatelaw01_works.f kj2).bind fun t785 => (some t785)) else (some false)) else (some false)) else (some false))))))) = some r := by rw [if_neg (show ¬ (false = true) by decide)] at H; exact H
    clear H
    have H := H1
    clear H1
    replace H := Option.bind_eq_some_iff.mp H
    obtain ⟨t768, A110, H⟩ := H
    replace H : ((swashplateref01_CopyBoxes.f kj2 l1).bind fun t771 => ((spans_CoversP.f t768 t771).bind fun bt774 => ((swashplateref01_Covers.f kj2 l0 l1).bind fun bt779 => ((swashplatelaw01_sameInts.f kj2 bt774.1 bt779.1).bind fun t784 => (if t784 = true then (if (bt774.2.1 == bt779.2.1) = true then (if bt774.2.2 = bt779.2.2 then ((swashplatelaw01_works.f kj2).bind fun t785 => (some t785)) else (some false)) else (some false)) else (some false)))))) = some r := H
    have A11 := Aside0.mk A110
    clear A110
    replace H := Option.bind_eq_some_iff.mp H
    obtain ⟨t771, A120, H⟩ := H
    replace H : ((spans_CoversP.f t768 t771).bind fun bt774 => ((swashplateref01_Covers.f kj2 l0 l1).bind fun bt779 => ((swashplatelaw01_sameInts.f kj2 bt774.1 bt779.1).bind fun t784 => (if t784 = true then (if (bt774.2.1 == bt779.2.1) = true then (if bt774.2.2 = bt779.2.2 then ((swashplatelaw01_works.f kj2).bind fun t785 => (some t785)) else (some false)) else (some false)) else (some false))))) = some r := H
    have A12 := Aside0.mk A120
    clear A120
    replace H := Option.bind_eq_some_iff.mp H
    obtain ⟨⟨t774, t775, t776⟩, A130, H⟩ := H
    replace H : ((swashplateref01_Covers.f kj2 l0 l1).bind fun bt779 => ((swashplatelaw01_sameInts.f kj2 t774 bt779.1).bind fun t784 => (if t784 = true then (if (t775 == bt779.2.1) = true then (if t776 = bt779.2.2 then ((swashplatelaw01_works.f kj2).bind fun t785 => (some t785)) else (some false)) else (some false)) else (some false)))) = some r := H
    have A13 := Aside0.mk A130
    clear A130
    replace H := Option.bind_eq_some_iff.mp H
    obtain ⟨⟨t779, t780, t781⟩, A140, H⟩ := H
    replace H : ((swashplatelaw01_sameInts.f kj2 t774 t779).bind fun t784 => (if t784 = true then (if (t775 == t780) = true then (if t776 = t781 then ((swashplatelaw01_works.f kj2).bind fun t785 => (some t785)) else (some false)) else (some false)) else (some false))) = some r := H
    have A14 := Aside0.mk A140
    clear A140
    replace H := Option.bind_eq_some_iff.mp H
    obtain ⟨t784, A150, H⟩ := H
    replace H : (if t784 = true then (if (t775 == t780) = true then (if t776 = t781 then ((swashplatelaw01_works.f kj2).bind fun t785 => (some t785)) else (some false)) else (some false)) else (some false)) = some r := H
    have A15 := Aside0.mk A150
    clear A150
    by_cases c16 : t784 = true
    ·
     subst c16
     have H1 : (if (t775 == t780) = true then (if t776 = t781 then ((swashplatelaw01_works.f kj2).bind fun t785 => (some t785)) else (some false)) else (some false)) = some r := by rw [if_pos rfl] at H; exact H
     clear H
     have H := H1
     clear H1
     by_cases c17 : (t775 == t780) = true
     ·
      rw [if_pos c17] at H
      have c17b0 : (t775 == t780) = true := c17
      (try (have c17b1 : decide (t775 = t780) = true := by simpa using c17))
      (try (have c17b2 : (t775 == t780) = true := by simpa using c17))
      clear c17
      by_cases c18 : t776 = t781
      ·
       rw [if_pos c18] at H
       have c18b0 : (t776 == t781) = true := beq_iff_eq.mpr c18
       have c18b1 : (t776 != t781) = false := bne_eq_false_iff_eq.mpr c18
       clear c18
       replace H := Option.bind_eq_some_iff.mp H
       obtain ⟨t785, A190, H⟩ := H
       replace H : (some t785) = some r := H
       have A19 := Aside0.mk A190
       clear A190
       obtain rfl := Option.some.inj H
       go_wp2_with (first | ((with_reducible refine gate_callee (f := 27) rfl ?_); refine goesL_ (some 31) rfl rfl Try.func27 (by kernel_rfl) rfl #[.slice A0 l0.length c0] rfl (by (try simp only [List.map_toArray, List.map_cons, List.map_nil]); first | done | rfl | (simp only [List.length_drop, List.length_take]; rfl)) ?_; (with_reducible refine (swashplatelaw01_box.calls _ _ l0 t768 _ ?side1 ?side2 A11.out).mono ?_); (case side1 => exact cr_ (Kd.C_below HR0.out HB.out)); (case side2 => exact HC0.out); rintro e w20 ⟨v769, rfl, ho0, hb⟩; refine ⟨_, rfl, ?_⟩; have n0_ := Aside0.mk (Kd.R_lower ho0 (below_size (bl_ HB.out))); have n1_ := Aside0.mk (below_step (bl_ HB.out) hb); clear HB; have HO770 := n0_; have HB := n1_; clear n0_ n1_; (try clear hb); (try clear hb2); (try clear hk); (try clear hi); (try clear ho0)) | ((with_reducible refine gate_callee (f := 66) rfl ?_); refine goesL_ (some 33) rfl rfl Try.func66 (by kernel_rfl) rfl #[.slice A1 l1.length c1] rfl (by (try simp only [List.map_toArray, List.map_cons, List.map_nil]); first | done | rfl | (simp only [List.length_drop, List.length_take]; rfl)) ?_; (with_reducible refine (swashplateref01_CopyBoxes.calls kj2 _ _ l1 t771 _ ?side1 ?side2 A12.out).mono ?_); (case side1 => exact cr_ (Kd.C_below HR1.out HB.out)); (case side2 => exact HC1.out); rintro e w21 ⟨v772, rfl, ho0, hb⟩; refine ⟨_, rfl, ?_⟩; have n0_ := Aside0.mk (Kd.R_below (by (with_reducible repeat (first | apply Kd.R_alloc | apply Kd.R_drewN | apply Kd.R_drew)); exact HO770.out) hb); have n1_ := Aside0.mk (Kd.S_lower (Kd.S_new' ho0 (Kd.R_lt (by (with_reducible repeat (first | apply Kd.R_alloc | apply Kd.R_drewN | apply Kd.R_drew)); exact HO770.out))) (below_size (bl_ HB.out))); have n2_ := Aside0.mk (below_step (bl_ HB.out) hb); clear HO770 HB; have HO770 := n0_; have HO773 := n1_; have HB := n2_; clear n0_ n1_ n2_; (try clear hb); (try clear hb2); (try clear hk); (try clear hi); (try clear ho0); obtain ⟨Ao22, co22, eo22⟩ := Kd.R_slice HO770.out; subst eo22; obtain ⟨Ao23, co23, eo23⟩ := Kd.S_slice HO773.out; subst eo23) | ((with_reducible refine gate_callee (f := 76) rfl ?_); refine goesL_ (some 34) rfl rfl Try.func76 (by kernel_rfl) rfl #[.slice Ao22 t768.length co22, .slice Ao23 t771.length co23] rfl (by (try simp only [List.map_toArray, List.map_cons, List.map_nil]); first | done | rfl | (simp only [List.length_drop, List.length_take]; rfl)) ?_; (with_reducible refine (spans_CoversP.calls _ _ t768 _ _ t771 t774 t775 t776 _ ?side1 ?side2 ?side3 ?side4 A13.out).mono ?_); (case side1 => exact cr_ (Kd.R_reads' HO770.out).2.2); (case side2 => exact (Kd.R_reads' HO770.out).2.1); (case side3 => exact cr_ (Kd.S_reads' HO773.out).2.2); (case side4 => exact (Kd.S_reads' HO773.out).2.1); rintro e w24 ⟨v777, rfl, ho0, hb⟩; refine ⟨_, rfl, ?_⟩; have n0_ := Aside0.mk (Kd.R_below (by (with_reducible repeat (first | apply Kd.R_alloc | apply Kd.R_drewN | apply Kd.R_drew)); exact HO770.out) hb); have n1_ := Aside0.mk (Kd.S_below (by (with_reducible repeat (first | apply Kd.S_alloc | apply Kd.S_drewN | apply Kd.S_drew)); exact HO773.out) hb); have n2_ := Aside0.mk (Kd.R_lower ho0 (below_size (bl_ HB.out))); have n3_ := Aside0.mk (below_step (bl_ HB.out) hb); clear HO770 HO773 HB; have HO770 := n0_; have HO773 := n1_; have HO778 := n2_; have HB := n3_; clear n0_ n1_ n2_ n3_; (try clear hb); (try clear hb2); (try clear hk); (try clear hi); (try clear ho0)) | ((with_reducible refine gate_callee (f := 77) rfl ?_); refine goesL_ (some 41) rfl rfl Try.func77 (by kernel_rfl) rfl #[.slice A0 l0.length c0, .slice A1 l1.length c1] rfl (by (try simp only [List.map_toArray, List.map_cons, List.map_nil]); first | done | rfl | (simp only [List.length_drop, List.length_take]; rfl)) ?_; (with_reducible refine (swashplateref01_Covers.calls kj2 _ _ l0 _ _ l1 t779 t780 t781 _ ?side1 ?side2 ?side3 ?side4 A14.out).mono ?_); (case side1 => exact cr_ (Kd.C_below HR0.out HB.out)); (case side2 => exact HC0.out); (case side3 => exact cr_ (Kd.C_below HR1.out HB.out)); (case side4 => exact HC1.out); rintro e w25 ⟨v782, rfl, ho0, hb⟩; refine ⟨_, rfl, ?_⟩; have n0_ := Aside0.mk (Kd.R_below (by (with_reducible repeat (first | apply Kd.R_alloc | apply Kd.R_drewN | apply Kd.R_drew)); exact HO770.out) hb); have n1_ := Aside0.mk (Kd.S_below (by (with_reducible repeat (first | apply Kd.S_alloc | apply Kd.S_drewN | apply Kd.S_drew)); exact HO773.out) hb); have n2_ := Aside0.mk (Kd.R_elder' (by (with_reducible repeat (first | apply Kd.R_alloc | apply Kd.R_drewN | apply Kd.R_drew)); exact HO778.out) (Kd.R_base ho0) hb); have n3_ := Aside0.mk (Kd.R_lower (Kd.R_new' ho0 (Kd.R_lt (by (with_reducible repeat (first | apply Kd.R_alloc | apply Kd.R_drewN | apply Kd.R_drew)); exact HO778.out))) (below_size (bl_ HB.out))); have n4_ := Aside0.mk (below_step (bl_ HB.out) hb); clear HO770 HO773 HO778 HB; have HO770 := n0_; have HO773 := n1_; have HO778 := n2_; have HO783 := n3_; have HB := n4_; clear n0_ n1_ n2_ n3_ n4_; (try clear hb); (try clear hb2); (try clear hk); (try clear hi); (try clear ho0); obtain ⟨Ao26, co26, eo26⟩ := Kd.R_slice HO778.out; subst eo26; obtain ⟨Ao27, co27, eo27⟩ := Kd.R_slice HO783.out; subst eo27) | ((with_reducible refine gate_callee (f := 78) rfl ?_); refine goesL_ (some 47) rfl rfl Try.func78 (by kernel_rfl) rfl #[.slice Ao26 t774.length co26, .slice Ao27 t779.length co27] rfl (by (try simp only [List.map_toArray, List.map_cons, List.map_nil]); first | done | rfl | (simp only [List.length_drop, List.length_take]; rfl)) ?_; (with_reducible refine (swashplatelaw01_sameInts.calls kj2 _ _ t774 _ _ t779 true _ ?side1 ?side2 ?side3 ?side4 A15.out).mono ?_); (case side1 => exact cr_ (Kd.R_reads' HO778.out).2.2); (case side2 => exact (Kd.R_reads' HO778.out).2.1); (case side3 => exact cr_ (Kd.R_reads' HO783.out).2.2); (case side4 => exact (Kd.R_reads' HO783.out).2.1); rintro e w' ⟨rfl, ⟨nd, rfl⟩⟩; refine ⟨_, rfl, ?_⟩) | (go_at_call 22; (with_reducible refine (swashplatelaw01_works.calls kj2  t785 _ A19.out).mono ?_); rintro e w28 ⟨rfl, hb⟩; have n0_ := Aside0.mk (Kd.R_below (by (with_reducible repeat (first | apply Kd.R_alloc | apply Kd.R_drewN | apply Kd.R_drew)); exact HO770.out) hb); have n1_ := Aside0.mk (Kd.S_below (by (with_reducible repeat (first | apply Kd.S_alloc | apply Kd.S_drewN | apply Kd.S_drew)); exact HO773.out) hb); have n2_ := Aside0.mk (Kd.R_below (by (with_reducible repeat (first | apply Kd.R_alloc | apply Kd.R_drewN | apply Kd.R_drew)); exact HO778.out) hb); have n3_ := Aside0.mk (Kd.R_below (by (with_reducible repeat (first | apply Kd.R_alloc | apply Kd.R_drewN | apply Kd.R_drew)); exact HO783.out) hb); have n4_ := Aside0.mk (below_step (bl_ HB.out) hb); clear HO770 HO773 HO778 HO783 HB; have HO770 := n0_; have HO773 := n1_; have HO778 := n2_; have HO783 := n3_; have HB := n4_; clear n0_ n1_ n2_ n3_ n4_; (try clear hb); (try clear hb2); (try clear hk); (try clear hi)))
       go_ret
       exact ⟨by first | rfl | (simp [errW_none, errW_some] <;> rfl) | (simp [*, errW_none, errW_some] <;> rfl), bl_ HB.out⟩
      ·
       rw [if_neg c18] at H
       have c18b0 : (t776 == t781) = false := beq_eq_false_iff_ne.mpr c18
       have c18b1 : (t776 != t781) = true := bne_iff_ne.mpr c18
       exact absurd ((Option.some.inj H).trans hrT.out) (by decide)
     ·
      rw [if_neg c17] at H
      have c17b0 : (t775 == t780) = false := by simpa using c17
      (try (have c17b1 : decide (t775 = t780) = false := by simpa using c17))
      (try (have c17b2 : (t775 == t780) = false := by simpa using c17))
      (try (have c17b3 : ¬ (t775 = t780) := by simpa using c17))
      clear c17
      exact absurd ((Option.some.inj H).trans hrT.out) (by decide)
    ·
     replace c16 := Bool.eq_false_iff.mpr c16
     subst c16
     have H1 : (some false) = some r := by rw [if_neg (show ¬ (false = true) by decide)] at H; exact H
     clear H
     have H := H1
     clear H1
     exact absurd ((Option.some.inj H).trans hrT.out) (by decide)
end Go.Proofs.Yteodlmgmmpkpoaa.PS
end
section
namespace Go.Proofs.Yteodlmgmmpkpoaa.PS
open Go.RowKit Go.Proofs.YteodlmgmmpkpoaaW.PrintWords Go.Proofs.YteodlmgmmpkpoaaW.PrintLast Go.Proofs.YteodlmgmmpkpoaaW.PrintMore
set_option linter.unusedVariables false
set_option linter.unusedSimpArgs false
theorem bef_loop (p q : List Int) (hl : p.length ≤ 1000) (hq : q.length = p.length) : ∀ (k i : Nat), i ≤ p.length → p.length - i < k → swashplateref01_before.l0 k p q i = some (befB (p.drop i) (q.drop i))
  | 0, i, _, h => absurd h (Nat.not_lt_zero _)
  | k + 1, i, hi, hk => by
    simp only [swashplateref01_before.l0]
    by_cases hlt : i < p.length
    · have e1 : rd p (i : Int) = p.getD i 0 := by rw [rd_nat]; rfl
      have e2 : rd q (i : Int) = q.getD i 0 := by rw [rd_nat]; rfl
      rw [if_pos (by omega), if_pos (by omega), if_pos (by omega), e1, e2, drop_stepG (0 : Int) p i hlt, drop_stepG (0 : Int) q i (by omega)]
      simp only [befB]
      by_cases h1 : p.getD i 0 = q.getD i 0
      · rw [if_pos h1, if_pos h1, step64 i (by omega)]
        exact bef_loop p q hl hq k (i + 1) (by omega) (by omega)
      · rw [if_neg h1, if_neg h1]
    · rw [if_neg (by omega), List.drop_of_length_le (by omega), List.drop_of_length_le (by omega)]
      rfl
theorem bef_total (p q : List Int) (hl : p.length ≤ 1000) (hq : q.length = p.length) (k : Nat) (hk : p.length < k) : swashplateref01_before.f k p q = some (befB p q) := by
  unfold swashplateref01_before.f
  have := bef_loop p q hl hq k 0 (Nat.zero_le _) (by omega)
  rwa [List.drop_zero, List.drop_zero] at this
theorem cov_inner (a : List S27) (L : List (List S27)) (first : List Int) (i : Nat) (r : List Int × Bool × Int) (K0 : Nat) (x : List S27) (ha : a.length ≤ 3) (hi : i < L.length) (hL : L.length ≤ 10000000) (hx : L.getD i [] = x) (hxl : x.length = a.length) :
    ∀ (k d : Nat) (low : List Int), d ≤ a.length → low.length = d → (a.length - d) + 1 + K0 ≤ k →
      (∀ k', K0 ≤ k' → (if (i : Int) = 0 then swashplateref01_Covers.l0 k' a L (low ++ lowsT (x.drop d)) ((i + 1 : Nat) : Int) else ((swashplateref01_before.f k' (low ++ lowsT (x.drop d)) first).bind fun t730 => (if t730 = true then (swashplateref01_Covers.l0 k' a L (low ++ lowsT (x.drop d)) ((i + 1 : Nat) : Int)) else (swashplateref01_Covers.l0 k' a L first ((i + 1 : Nat) : Int))))) = some r) →
      swashplateref01_Covers.l1 k a L first i low d = some r
  | 0, d, low, _, _, h, _ => absurd h (by omega)
  | k + 1, d, low, hd, hlow, hk, hr => by
    simp only [swashplateref01_Covers.l1]
    rw [step64 i (by omega)]
    by_cases hlt : d < a.length
    · rw [if_pos (by omega), if_pos (by omega), if_pos (by omega), if_pos (by omega), rdL2_nat, hx, if_pos (by omega), if_pos (by omega), rdT27_nat, step64 d (by omega)]
      refine cov_inner a L first i r K0 x ha hi hL hx hxl k (d + 1) _ (by omega) (by simp [hlow]) (by omega) (fun k' hk' => ?_)
      have := hr k' hk'
      rw [drop_stepG z27 x d (by omega)] at this
      rw [List.append_assoc]
      exact this
    · rw [if_neg (by omega)]
      have := hr k (by omega)
      rw [List.drop_of_length_le (by omega), show lowsT [] = [] from rfl, List.append_nil] at this
      exact this
theorem lowsT_len (x : List S27) : (lowsT x).length = x.length := by unfold lowsT; rw [List.length_map]
theorem cov_outer (a : List S27) (L : List (List S27)) (ha : 1 ≤ a.length ∧ a.length ≤ 3) (hL : L.length ≤ 10000000) (hLx : ∀ x ∈ L, x.length = a.length) (r : Nat) :
    ∀ (i k : Nat), r = L.length - i → i ≤ L.length → r * 50 + 100 ≤ k → swashplateref01_Covers.l0 k a L (firstT ((L.take i).map lowsT)) i = some (firstT (L.map lowsT), L.isEmpty, 0) := by
  induction r with
  | zero =>
    intro i k hr hi hk
    obtain ⟨k, rfl⟩ : ∃ m, k = m + 1 := ⟨k - 1, by omega⟩
    obtain rfl : i = L.length := by omega
    simp only [swashplateref01_Covers.l0]
    rw [if_neg (by omega), List.take_length]
    cases L with
    | nil => rfl
    | cons a l =>
      rw [show (((a :: l).length : Int) == 0) = false from beq_eq_false_iff_ne.2 (by simp only [List.length_cons]; omega)]
      rfl
  | succ r ih =>
    intro i k hr hi hk
    obtain ⟨k, rfl⟩ : ∃ m, k = m + 1 := ⟨k - 1, by omega⟩
    simp only [swashplateref01_Covers.l0]
    have hlt : i < L.length := by omega
    obtain ⟨x, hx⟩ : ∃ x, L.getD i [] = x := ⟨_, rfl⟩
    have hmem : x ∈ L := by rw [← hx]; exact getD_mem L [] i hlt
    have hxl := hLx x hmem
    have ht : L.take (i + 1) = L.take i ++ [x] := by
      rw [List.take_succ_eq_append_getElem hlt, ← hx]
      simp [List.getD_eq_getElem?_getD, List.getElem?_eq_getElem hlt]
    rw [if_pos (by omega)]
    refine cov_inner a L _ i _ (r * 50 + 100) x ha.2 hlt hL hx hxl k 0 [] (Nat.zero_le _) rfl (by omega) (fun k' hk' => ?_)
    rw [List.nil_append, List.drop_zero]
    have hn := ih (i + 1) k' (by omega) (by omega) hk'
    rw [ht, List.map_append, List.map_cons, List.map_nil] at hn
    by_cases h0 : i = 0
    · rw [if_pos (by omega)]
      rw [h0, List.take_zero] at hn
      rw [h0]
      exact hn
    · have hne : ((L.take i).map lowsT) ≠ [] := by
        intro e
        have := congrArg List.length e
        rw [List.length_map, List.length_take, List.length_nil] at this
        omega
      have hfm : (firstT ((L.take i).map lowsT)).length = a.length := by
        obtain ⟨y, hy, e⟩ := List.mem_map.1 (firstT_mem _ hne)
        rw [← e, lowsT_len]
        exact hLx y (List.mem_of_mem_take hy)
      rw [if_neg (by omega), bef_total _ _ (by rw [lowsT_len]; omega) (by rw [lowsT_len, hfm, hxl]) k' (by rw [lowsT_len]; omega), Option.bind_some]
      rw [firstT_snoc _ _ hne] at hn
      by_cases hb : befB (lowsT x) (firstT ((L.take i).map lowsT)) = true
      · rw [if_pos hb]
        rw [if_pos hb] at hn
        exact hn
      · rw [if_neg hb]
        rw [if_neg hb] at hn
        exact hn
def covR (a : List S27) (l : List (List S27)) : List Int × Bool × Int :=
  if 20 < l.length then ([], false, 2) else if listE (a :: l) = 0 then (firstT ((leftT a l).map lowsT), (leftT a l).isEmpty, 0) else ([], false, listE (a :: l))
theorem listE_cons (a : List S27) (l : List (List S27)) : listE (a :: l) = if boxB a = true then (if l.all boxB then (if sameB a.length l then 0 else 1) else 10) else 10 := by
  unfold listE sameB
  rw [List.all_cons, List.headD_cons, List.all_cons, beq_self_eq_true, Bool.true_and]
  rcases Bool.eq_false_or_eq_true (boxB a) with h | h
  · rw [h, Bool.true_and, if_pos rfl]
  · rw [h, Bool.false_and, if_neg (by decide), if_neg (by decide)]
theorem covers_total (a : List S27) (l : List (List S27)) (h8 : l.length ≤ 8 ∨ 20 < l.length) (k : Nat) (hk : 100000000 ≤ k) : swashplateref01_Covers.f k a l = some (covR a l) := by
  obtain ⟨k, rfl⟩ : ∃ m, k = m + 1 := ⟨k - 1, by omega⟩
  unfold swashplateref01_Covers.f covR
  by_cases h20 : 20 < l.length
  · rw [if_neg (by omega), if_pos h20]
    simp only [swashplateref01_Covers.j0]
    rw [if_neg (by decide), cl_many l h20, Option.bind_some, if_neg (by decide)]
  · have h8 : l.length ≤ 8 := by omega
    rw [if_pos (by omega), if_neg h20, rcheck_total _ _ (by omega), Option.bind_some]
    rcases Bool.eq_false_or_eq_true (boxB a) with ha | ha
    · rw [ha, if_pos rfl, show ((0 : Int) != 0) = false from rfl]
      simp only [swashplateref01_Covers.j0]
      rw [if_neg (by decide), cl_dims l (by omega) a.length k (by omega), Option.bind_some, listE_cons, ha, if_pos rfl]
      by_cases hb : l.all boxB = true
      · rw [hb, if_pos rfl]
        by_cases hs : sameB a.length l = true
        · rw [hs, if_pos rfl, if_pos rfl, if_pos rfl]
          have hl : ∀ b ∈ l, boxB b = true ∧ b.length = a.length := fun b hm => ⟨List.all_eq_true.1 hb b hm, by unfold sameB at hs; exact beq_iff_eq.1 (List.all_eq_true.1 hs b hm)⟩
          have hok := leftT_ok (a := a) (l := l) ha rfl hl
          have hp := pow6 (n := l.length) h8
          rw [left_total a l ha h8 hl k (by omega), Option.bind_some]
          have := cov_outer a (leftT a l) (boxB_size ha) (by omega) (fun x hx => (hok.1 x hx).2) (leftT a l).length 0 k (by omega) (Nat.zero_le _) (by omega)
          exact this
        · rw [if_neg hs, if_neg (by decide), if_neg (by decide)]
      · rw [if_neg hb, if_neg (by decide), if_neg (by decide)]
    · rw [ha, if_neg (by decide), show ((10 : Int) != 0) = true from rfl]
      simp only [swashplateref01_Covers.j0]
      rw [if_pos trivial, listE_cons, ha, if_neg (show ¬ (false = true) by decide), if_neg (show ¬ ((10 : Int) = 0) by decide)]
theorem same_loop (l : List Int) (hl : l.length ≤ 1000) : ∀ (k i : Nat), i ≤ l.length → l.length - i < k → swashplatelaw01_sameInts.l0 k l l i = some true
  | 0, i, _, h => absurd h (Nat.not_lt_zero _)
  | k + 1, i, hi, hk => by
    simp only [swashplatelaw01_sameInts.l0]
    by_cases hlt : i < l.length
    · rw [if_pos (by omega), if_pos (by omega), if_pos (by omega), if_pos trivial, step64 i (by omega)]
      exact same_loop l hl k (i + 1) (by omega) (by omega)
    · rw [if_neg (by omega)]
theorem same_refl (l : List Int) (hl : l.length ≤ 1000) (k : Nat) (hk : l.length < k) : swashplatelaw01_sameInts.f k l l = some true := by
  unfold swashplatelaw01_sameInts.f
  rw [if_pos rfl]
  exact same_loop l hl k 0 (Nat.zero_le _) (by omega)
theorem covR_len (a : List S27) (l : List (List S27)) (ha : a.length ≤ 6) (h8 : l.length ≤ 8 ∨ 20 < l.length) : (covR a l).1.length ≤ 6 := by
  unfold covR
  split
  · simp
  · split
    · rename_i h20 he
      have h := listE_ok he
      by_cases hn : ((leftT a l).map lowsT) = []
      · rw [hn]; simp [firstT]
      · obtain ⟨y, hy, e⟩ := List.mem_map.1 (firstT_mem _ hn)
        have hok := leftT_ok (a := a) (l := l) (h a List.mem_cons_self).1 rfl (fun b hb => h b (List.mem_cons_of_mem _ hb))
        show (firstT ((leftT a l).map lowsT)).length ≤ 6
        rw [← e, lowsT_len, (hok.1 y hy).2]
        exact ha
    · simp
theorem covers_true (a : List S27) (l : List (List S27)) : swashplatelaw01_SpansCovers.f 200000000 a l = some true := by
  obtain ⟨k, hk⟩ : ∃ k : Nat, 200000000 = k + 1 := ⟨199999999, rfl⟩
  rw [hk]
  have hj : swashplatelaw01_SpansCovers.j0 (k + 1) a l true = some true := by
    simp only [swashplatelaw01_SpansCovers.j0]
    rw [if_pos trivial, works_at _ (by omega)]; rfl
  have hmain : a.length ≤ 6 → farL l = false → (l.length ≤ 8 ∨ 20 < l.length) → swashplatelaw01_SpansCovers.j0 (k + 1) a l false = some true := by
    intro ha hf h8
    have hf' := farL_false hf
    simp only [swashplatelaw01_SpansCovers.j0]
    have hcov : spans_CoversP.f a l = some (covR a l) := by
      unfold spans_CoversP.f covR
      by_cases h20 : 20 < l.length
      · rw [if_pos h20, if_pos h20]
      · rw [if_neg h20, if_neg h20, if_neg (by omega)]
    rw [if_neg (by decide), box_total a ha, Option.bind_some, copyB_total l (by omega) (fun x hx => by have := hf'.2 x hx; omega) k (by omega), Option.bind_some, hcov, Option.bind_some, covers_total a l h8 k (by omega), Option.bind_some,
      same_refl _ (by have := covR_len a l ha h8; omega) k (by have := covR_len a l ha h8; omega), Option.bind_some, if_pos rfl, if_pos (by simp), if_pos rfl, works_at _ (by omega)]
    rfl
  unfold swashplatelaw01_SpansCovers.f
  by_cases h1 : a.length > 6
  · rw [if_pos (by omega), hj]
  · rw [if_neg (by omega), farL_total l _ (by omega), Option.bind_some]
    rcases Bool.eq_false_or_eq_true (farL l) with hf | hf
    · rw [hf, if_pos rfl, hj]
    · rw [hf, if_neg (by decide)]
      by_cases h8 : 8 < l.length
      · rw [if_pos (by omega)]
        by_cases h20 : l.length ≤ 20
        · rw [decide_eq_true (by omega), hj]
        · rw [decide_eq_false (by omega)]
          exact hmain (by omega) hf (.inr (by omega))
      · rw [if_neg (by omega)]
        exact hmain (by omega) hf (.inl (by omega))
end Go.Proofs.Yteodlmgmmpkpoaa.PS
end
section
namespace Go.Proofs.Yteodlmgmmpkpoaa.PS
open Go.RowKit Go.Deep Go.ChangeShapes Go.WideShapes Go.ChangeAt Go.Proofs.YteodlmgmmpkpoaaW.PrintWords
set_option linter.unusedVariables false
set_option maxRecDepth 100000 in
theorem liftedCovers (os : Os) (started : os.Started) (H : Type) (enc : TypeId × Value → H) :
    ReturnsInHanded {} Try.checked os 17 .any (Rows.spansCoversSpec.pre6 enc Try.prog Try.f17 Rows.spansCoversRow.domain false) (Rows.spansCoversSpec.post enc Try.prog Try.f17 false true false false) := by
  refine returnsInHanded_of_change (C := Try.checked) ownNone started (by kernel_rfl) Try.func17
    (ChangeSpec.witness6 (enc := enc) (C := Try.checked) false ⟨#[], #[.slice none 0 0, .slice none 0 0], []⟩ 8 (by kernel_rfl) (by kernel_rfl) (by kernel_rfl) (by kernel_rfl)) ?_
  intro W base args ds gs before hval0 hW hcnd _
  have hval : ∀ (j : Nat) t v, Try.f17.params[j]? = some t → args[j]? = some v → Value.okWide Try.prog W .any base t v := hval0
  have hW' := hW
  obtain ⟨p, q, hA0, hV, rfl, hfz, hnd⟩ := hW
  have hA : DataW.TrodAll enc Try.prog W 0 (fun _ => true) true Try.f17.params.toList args.toList ds p := hA0
  rw [Try.params17] at hA hval
  obtain ⟨v0, vs0, d0, ds0, p0, q0, hargs, rfl, rfl, h0, r0⟩ := trodAll_cons hA
  obtain ⟨v1, vs1, d1, ds1, p1, q1, rfl, rfl, rfl, h1, r1⟩ := trodAll_cons r0
  obtain ⟨rfl, rfl, rfl⟩ := trodAll_nil r1
  obtain rfl : args = #[v0, v1] := by cases args; simp_all
  obtain ⟨rfl, rfl⟩ := trodVars_none hV
  have k0 := h0
  have lt0 : ∀ x ∈ p0, x.block < W.heap.size := by obtain ⟨m, hm⟩ := k0; exact DataW.trod_lt m _ _ _ hm
  have k1 := h1
  have lt1 : ∀ x ∈ p1, x.block < W.heap.size := by obtain ⟨m, hm⟩ := k1; exact DataW.trod_lt m _ _ _ hm
  obtain ⟨A0, c0, b0, rfl, o01, o02, _, _⟩ := arg38 (hval 0 38 v0 rfl rfl) h0
  obtain ⟨A1, c1, b1, rfl, o11, o12, _, _⟩ := arg95 (hval 1 95 v1 rfl rfl) h1
  clear hA0 hval0
  refine (swashplatelaw01_SpansCovers.calls 200000000 A0 c0 b0 A1 c1 b1 true W o02 o01 o12 o11 (covers_true b0 b1) ⟨rfl⟩).mono fun e W' ⟨he, bel⟩ => ?_
  subst he
  exact ⟨_, rfl, _, _, _, [], _, [], hW', trodAll_mk1 (shut_bool Try.underlying4 _), (trodAll_cons_mk (Below.trod laidOut (by kernel_rfl) (of_decide_eq_true (by kernel_rfl)) k0 bel lt0) (trodAll_cons_mk (Below.trod laidOut (by kernel_rfl) (of_decide_eq_true (by kernel_rfl)) k1 bel lt1) trodAll_mk0)), rfl, bel.frame _, fun h => by cases h⟩
theorem factsCovers : joinedFacts Try.prog 17 Try.f17 Rows.spansCoversSpec Rows.spansCoversRow = true := by
  have fk : (Rows.spansCoversRow.plainKeys == Try.prog.plainKeys) = true := factKeys
  have fl : (Rows.spansCoversRow.lifted == Try.prog.liftsFinal) = true := factLifted
  have fm : (Try.prog.make == some Rows.spansCoversRow.make) = true := factMake
  unfold joinedFacts
  repeat' (with_reducible refine Bool.and_eq_true_iff.2 ⟨?_, ?_⟩)
  all_goals first | (with_reducible exact fk) | (with_reducible exact factHeard) | (with_reducible exact factEnter) | (with_reducible exact fl) | (with_reducible exact fm) | kernel_rfl
theorem overCovers : Rows.spansCoversRow.holds Try.pinned (OpenSpec.ofChange Rows.spansCoversSpec) :=
  OpenClaim.holds_of_wide 17 Try.f17 rfl rfl rfl rfl rfl rfl rfl ⟨rfl, rfl, rfl, rfl, rfl⟩ rfl rfl rfl rfl rfl (by kernel_rfl) Try.func17 factsCovers
    (of_decide_eq_true (by kernel_rfl)) (by unfold Func.isWrapper; first | (rw [if_pos (by decide +kernel)]; kernel_rfl) | (rw [if_neg (by decide +kernel)]; exact ⟨rfl, rfl⟩))
    (fun os started H enc _ => liftedCovers os started H enc)
theorem coversProved : Rows.SpansCoversSaid := overCovers
#print axioms coversProved
end Go.Proofs.Yteodlmgmmpkpoaa.PS
end
