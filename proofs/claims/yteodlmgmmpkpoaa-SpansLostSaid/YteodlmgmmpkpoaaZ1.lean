-- Printed by a program of this session out of the translation (hybrid print) and out of hand proofs. Not trusted: Lean checks it.
import Derived.Below
import Derived.Deep.Draws
import Derived.Deep.AppendLies
import Derived.Maps.AppendAt
import Derived.OwnWalk
import Derived.Laws.BytesArg
import Derived.Laws.MakeOwn
import Derived.Laws.OwnMore
import Derived.Deep.OwnRows
import Derived.Tactics
import Derived.Lib.ConvBytes
import Derived.Laws.Slices
import Derived.WalkKit
import Derived.KernelRfl
import Derived.RowKit3
import Derived.Deep.LoopGhost
import Derived.Deep.QuietTactic
import Derived.BigQuiet
import Derived.WideLaws
import Derived.Deep.DeepCutAuto
import Derived.Deep.CutBlock
import Derived.Deep.RegionHeld3
import Derived.Laws.Rows
import Derived.Lib.AppendStr
import Derived.ArgAppend
import Derived.Laws.IdiomCopy
import Derived.RowKit
import Derived.Test.YteodlmgmmpkpoaaZ0
section
namespace Go.Proofs.Yteodlmgmmpkpoaa.PS
open Go.RowKit Go.Proofs.YteodlmgmmpkpoaaW.PrintWords Go.Proofs.YteodlmgmmpkpoaaW.PrintLast Go.Proofs.YteodlmgmmpkpoaaW.PrintMore
attribute [local go_sem] max2_int min2_int max_two min_two max_three min_three max_four min_four   -- for this text's walks alone
set_option linter.unusedVariables false
set_option linter.unusedSimpArgs false
set_option maxHeartbeats 8000000 in
set_option maxRecDepth 100000 in
theorem swashplateref01_From.calls (a0 : Int) (a1 : Int) (a2 : Int) (r : Bool) (w : World) (h : swashplateref01_From.f a0 a1 a2 = some r) :
  Calls Try.prog 37 #[.int .i64 a0, .int .i64 a1, .int .i64 a2] w fun e w' => e = .returned (.bool r) ∧ Drawn0 w w' := by
 have H : (if a0 ≥ a1 then (some (decide (a0 ≤ a2))) else (some false)) = some r := h
 clear h
 by_cases c4 : a0 ≥ a1
 ·
  rw [if_pos c4] at H
  have c4b0 : decide (a1 ≤ a0) = true := decide_eq_true c4
  clear c4
  obtain rfl := Option.some.inj H
  go_enter Try.func37, Try.ntmps37
  go_wp2
  go_ret
  exact ⟨by first | rfl | (simp; done) | (simp [*]; done), by repeat (first | exact Drawn0.refl _ | apply Drawn0.step)⟩
 ·
  rw [if_neg c4] at H
  have c4b0 : decide (a1 ≤ a0) = false := decide_eq_false c4
  clear c4
  obtain rfl := Option.some.inj H
  go_enter Try.func37, Try.ntmps37
  go_wp2
  go_ret
  exact ⟨by first | rfl | (simp; done) | (simp [*]; done), by repeat (first | exact Drawn0.refl _ | apply Drawn0.step)⟩
end Go.Proofs.Yteodlmgmmpkpoaa.PS
end
section
namespace Go.Proofs.Yteodlmgmmpkpoaa.PS
open Go.RowKit Go.Proofs.YteodlmgmmpkpoaaW.PrintWords Go.Proofs.YteodlmgmmpkpoaaW.PrintLast Go.Proofs.YteodlmgmmpkpoaaW.PrintMore
attribute [local go_sem] max2_int min2_int max_two min_two max_three min_three max_four min_four   -- for this text's walks alone
set_option linter.unusedVariables false
set_option linter.unusedSimpArgs false
set_option maxHeartbeats 8000000 in
set_option maxRecDepth 100000 in
theorem swashplateref01_Valid.calls (a0_0 : Int) (a0_1 : Int) (r : Bool) (w : World) (h : swashplateref01_Valid.f a0_0 a0_1 = some r) :
  Calls Try.prog 40 #[.agg #[.int .i64 a0_0, .int .i64 a0_1]] w fun e w' => e = .returned (.bool r) ∧ Below w.heap.size w w' := by
 have hu27 := Try.underlying27
 have HB := Aside0.mk (Below.refl w.heap.size w)
 have H : ((swashplateref01_From.f a0_0 (-1000000) 1000000).bind fun t330 => (if t330 = true then ((swashplateref01_From.f a0_1 a0_0 1000000).bind fun t331 => (some t331)) else (some false))) = some r := h
 clear h
 replace H := Option.bind_eq_some_iff.mp H
 obtain ⟨t330, A20, H⟩ := H
 replace H : (if t330 = true then ((swashplateref01_From.f a0_1 a0_0 1000000).bind fun t331 => (some t331)) else (some false)) = some r := H
 have A2 := Aside0.mk A20
 clear A20
 by_cases c3 : t330 = true
 ·
  subst c3
  have H1 : ((swashplateref01_From.f a0_1 a0_0 1000000).bind fun t331 => (some t331)) = some r := by rw [if_pos rfl] at H; exact H
  clear H
  have H := H1
  clear H1
  replace H := Option.bind_eq_some_iff.mp H
  obtain ⟨t331, A40, H⟩ := H
  replace H : (some t331) = some r := H
  have A4 := Aside0.mk A40
  clear A40
  obtain rfl := Option.some.inj H
  go_enter Try.func40, Try.ntmps40
  go_wp2_with (first | ((with_reducible refine gate_dst (N := 1) rfl ?_); refine box_event ?hg (N := 1) ?hd (cs := #[.int .i64 a0_0, .int .i64 a0_1]) (t := 27) ?hr ?_; (case hd => rfl); (case hg => rfl); (case hr => first | (go_simp; done) | (go_simp; rfl)); intro gb329 hg w5 hbox hb; have n0_ := Aside0.mk (below_step (bl_ HB.out) hb); have n1_ := Aside0.mk (hbox); have n2_ := Aside0.mk (szl_ hg HB.out); have n3_ := Aside0.mk (szl_ hg HB.out); clear HB; have HB := n0_; have BK329 := n1_; have GW329 := n2_; have GE329 := n3_; clear n0_ n1_ n2_ n3_ hb hbox hg; have hcz6_0 : w5.cell? ⟨gb329, 0, none⟩ = some (.int .i64 a0_0) := (blk_cell BK329.out 0).trans rfl; have hcz6_1 : w5.cell? ⟨gb329, 1, none⟩ = some (.int .i64 a0_1) := (blk_cell BK329.out 1).trans rfl; have hfz6_0 := blk_frozen BK329.out 0; have hfz6_1 := blk_frozen BK329.out 1) | ((with_reducible refine gate_callee (f := 37) rfl ?_); refine goesL_ (some 5) rfl rfl Try.func37 (by kernel_rfl) rfl #[.int .i64 a0_0, .int .i64 (-1000000), .int .i64 1000000] rfl (by (try simp only [List.map_toArray, List.map_cons, List.map_nil]); first | done | rfl | (simp only [List.length_drop, List.length_take]; rfl)) ?_; (with_reducible refine (swashplateref01_From.calls a0_0 (-1000000) 1000000 true _ A2.out).mono ?_); rintro e w' ⟨rfl, ⟨nd, rfl⟩⟩; refine ⟨_, rfl, ?_⟩) | (go_at_call 37; (with_reducible refine (swashplateref01_From.calls a0_1 a0_0 1000000 t331 _ A4.out).mono ?_); rintro e w' ⟨rfl, ⟨nd, rfl⟩⟩))
  go_ret
  exact ⟨by first | rfl | (simp [errW_none, errW_some] <;> rfl) | (simp [*, errW_none, errW_some] <;> rfl), bl_ HB.out⟩
 ·
  replace c3 := Bool.eq_false_iff.mpr c3
  subst c3
  have H1 : (some false) = some r := by rw [if_neg (show ¬ (false = true) by decide)] at H; exact H
  clear H
  have H := H1
  clear H1
  obtain rfl := Option.some.inj H
  go_enter Try.func40, Try.ntmps40
  go_wp2_with (first | ((with_reducible refine gate_dst (N := 1) rfl ?_); refine box_event ?hg (N := 1) ?hd (cs := #[.int .i64 a0_0, .int .i64 a0_1]) (t := 27) ?hr ?_; (case hd => rfl); (case hg => rfl); (case hr => first | (go_simp; done) | (go_simp; rfl)); intro gb329 hg w7 hbox hb; have n0_ := Aside0.mk (below_step (bl_ HB.out) hb); have n1_ := Aside0.mk (hbox); have n2_ := Aside0.mk (szl_ hg HB.out); have n3_ := Aside0.mk (szl_ hg HB.out); clear HB; have HB := n0_; have BK329 := n1_; have GW329 := n2_; have GE329 := n3_; clear n0_ n1_ n2_ n3_ hb hbox hg; have hcz8_0 : w7.cell? ⟨gb329, 0, none⟩ = some (.int .i64 a0_0) := (blk_cell BK329.out 0).trans rfl; have hcz8_1 : w7.cell? ⟨gb329, 1, none⟩ = some (.int .i64 a0_1) := (blk_cell BK329.out 1).trans rfl; have hfz8_0 := blk_frozen BK329.out 0; have hfz8_1 := blk_frozen BK329.out 1) | ((with_reducible refine gate_callee (f := 37) rfl ?_); refine goesL_ (some 5) rfl rfl Try.func37 (by kernel_rfl) rfl #[.int .i64 a0_0, .int .i64 (-1000000), .int .i64 1000000] rfl (by (try simp only [List.map_toArray, List.map_cons, List.map_nil]); first | done | rfl | (simp only [List.length_drop, List.length_take]; rfl)) ?_; (with_reducible refine (swashplateref01_From.calls a0_0 (-1000000) 1000000 false _ A2.out).mono ?_); rintro e w' ⟨rfl, ⟨nd, rfl⟩⟩; refine ⟨_, rfl, ?_⟩))
  go_ret
  exact ⟨by first | rfl | (simp [errW_none, errW_some] <;> rfl) | (simp [*, errW_none, errW_some] <;> rfl), bl_ HB.out⟩
end Go.Proofs.Yteodlmgmmpkpoaa.PS
end
section
namespace Go.Proofs.Yteodlmgmmpkpoaa.PS
open Go.RowKit Go.Proofs.YteodlmgmmpkpoaaW.PrintWords Go.Proofs.YteodlmgmmpkpoaaW.PrintLast Go.Proofs.YteodlmgmmpkpoaaW.PrintMore
attribute [local go_sem] max2_int min2_int max_two min_two max_three min_three max_four min_four   -- for this text's walks alone
set_option linter.unusedVariables false
set_option linter.unusedSimpArgs false
set_option maxHeartbeats 8000000 in
set_option maxRecDepth 100000 in
theorem swashplateref01_Check.calls (k : Nat) (A0 : Option Addr) (c0 : Nat) (l0 : List (S27)) (r : Int) (w : World) (hr0 : Kd.C k27 w A0 l0.length l0) (hc0 : l0.length ≤ c0) (h : swashplateref01_Check.f k l0 = some r) :
  Calls Try.prog 28 #[.slice A0 l0.length c0] w fun e w' => e = .returned (.int .i64 r) ∧ Below w.heap.size w w' := by
 have hu27 := Try.underlying27
 have HR0 := Aside0.mk hr0
 have HC0 := Aside0.mk hc0
 clear hr0 hc0
 have HB := Aside0.mk (Below.refl w.heap.size w)
 have H : ((swashplateref01_From.f (l0.length : Int) 1 3).bind fun t332 => (if t332 = true then (swashplateref01_Check.l0 k l0 0) else (some 10))) = some r := h
 clear h
 replace H := Option.bind_eq_some_iff.mp H
 obtain ⟨t332, A20, H⟩ := H
 replace H : (if t332 = true then (swashplateref01_Check.l0 k l0 0) else (some 10)) = some r := H
 have A2 := Aside0.mk A20
 clear A20
 by_cases c3 : t332 = true
 ·
  subst c3
  have H1 : (swashplateref01_Check.l0 k l0 0) = some r := by rw [if_pos rfl] at H; exact H
  clear H
  have H := H1
  clear H1
  have H' := Aside0.mk H
  clear H
  go_enter Try.func28, Try.ntmps28
  go_wp2_with (first | ((with_reducible refine gate_callee (f := 37) rfl ?_); refine goesL_ (some 6) rfl rfl Try.func37 (by kernel_rfl) rfl #[.int .i64 (l0.length : Int), .int .i64 1, .int .i64 3] rfl (by (try simp only [List.map_toArray, List.map_cons, List.map_nil]); first | done | rfl | (simp only [List.length_drop, List.length_take]; rfl)) ?_; (with_reducible refine (swashplateref01_From.calls (l0.length : Int) 1 3 true _ A2.out).mono ?_); rintro e w' ⟨rfl, ⟨nd, rfl⟩⟩; refine ⟨_, rfl, ?_⟩))
  go_loopg [3] k (fun kq v3 w' => ∃ (x3_1 : Int), v3 = .int .i64 x3_1 ∧ Aside0 (swashplateref01_Check.l0 kq l0 x3_1 = some r) ∧ Aside0 (kq ≤ k) ∧ Aside0 (Below w.heap.size w w'))
  case atStart => exact ⟨(0), (by first | rfl | (simp; done) | (simp [*]; done)), H', ⟨Nat.le_refl _⟩, ⟨bl_ HB.out⟩⟩
  case round =>
   clear H'
   try clear c2
   try clear p2
   try clear c3
   obtain ⟨x3_1, rfl, HA, HK1, HB⟩ := hrel
   cases gk with
   | zero => exact absurd HA.out (by simp [swashplateref01_Check.l0])
   | succ k1 =>
    have H := HA.out
    clear HA
    simp only [swashplateref01_Check.l0] at H
    by_cases c4 : x3_1 < (l0.length : Int)
    ·
     rw [if_pos c4] at H
     have c4b0 : decide (x3_1 < (l0.length : Int)) = true := decide_eq_true c4
     clear c4
     by_cases c5 : 0 ≤ x3_1
     ·
      rw [if_pos c5] at H
      have c5b0 : decide (0 ≤ x3_1) = true := decide_eq_true c5
      clear c5
      replace H := Option.bind_eq_some_iff.mp H
      obtain ⟨t334, A60, H⟩ := H
      replace H : (if t334 = true then (swashplateref01_Check.l0 k1 l0 (wrap64 (x3_1 + 1))) else (some 10)) = some r := H
      have A6 := Aside0.mk A60
      clear A60
      by_cases c7 : t334 = true
      ·
       subst c7
       have H1 : (swashplateref01_Check.l0 k1 l0 (wrap64 (x3_1 + 1))) = some r := by rw [if_pos rfl] at H; exact H
       clear H
       have H := H1
       clear H1
       have H' := Aside0.mk H
       clear H
       have p333 : 0 ≤ (x3_1 : Int) := of_decide_eq_true (by first | (with_reducible assumption) | assumption)
       have q333 : x3_1 < (l0.length : Int) := of_decide_eq_true (by first | (with_reducible assumption) | assumption)
       obtain ⟨ad333, e333, hx333_0, hx333_1⟩ := at_T27 HR0.out x3_1 p333 q333
       cases e333
       replace hx333_0 := (HB.out.cell (World.block_lt_of_cell? w _ hx333_0)).trans hx333_0
       replace hx333_1 := (HB.out.cell (World.block_lt_of_cell? w _ hx333_1)).trans hx333_1
       replace p333 := eq_true p333
       replace q333 := eq_true q333
       go_wp2_with (first | ((with_reducible refine gate_callee (f := 40) rfl ?_); refine goesL_ (some 18) rfl rfl Try.func40 (by kernel_rfl) rfl #[.agg #[.int .i64 ((rd_T27 l0 x3_1).f0), .int .i64 ((rd_T27 l0 x3_1).f1)]] rfl (by (try simp only [List.map_toArray, List.map_cons, List.map_nil]); first | done | rfl | (simp only [List.length_drop, List.length_take]; rfl)) ?_; (with_reducible refine (swashplateref01_Valid.calls ((rd_T27 l0 x3_1).f0) ((rd_T27 l0 x3_1).f1) true _ A6.out).mono ?_); rintro e w8 ⟨rfl, hb⟩; refine ⟨_, rfl, ?_⟩; have n0_ := Aside0.mk (below_step (bl_ HB.out) hb); clear HB; have HB := n0_; clear n0_; (try clear hb); (try clear hb2); (try clear hk); (try clear hi)))
       go_roundg k1
       case measure => have := HK1.out; omega
       case rel => exact ⟨(wrap64 (x3_1 + 1)), (by first | rfl | (simp; done) | (simp [*]; done)), H', ⟨by have := HK1.out; omega⟩, ⟨bl_ HB.out⟩⟩
      ·
       replace c7 := Bool.eq_false_iff.mpr c7
       subst c7
       have H1 : (some 10) = some r := by rw [if_neg (show ¬ (false = true) by decide)] at H; exact H
       clear H
       have H := H1
       clear H1
       obtain rfl := Option.some.inj H
       have p333 : 0 ≤ (x3_1 : Int) := of_decide_eq_true (by first | (with_reducible assumption) | assumption)
       have q333 : x3_1 < (l0.length : Int) := of_decide_eq_true (by first | (with_reducible assumption) | assumption)
       obtain ⟨ad333, e333, hx333_0, hx333_1⟩ := at_T27 HR0.out x3_1 p333 q333
       cases e333
       replace hx333_0 := (HB.out.cell (World.block_lt_of_cell? w _ hx333_0)).trans hx333_0
       replace hx333_1 := (HB.out.cell (World.block_lt_of_cell? w _ hx333_1)).trans hx333_1
       replace p333 := eq_true p333
       replace q333 := eq_true q333
       go_wp2_with (first | ((with_reducible refine gate_callee (f := 40) rfl ?_); refine goesL_ (some 18) rfl rfl Try.func40 (by kernel_rfl) rfl #[.agg #[.int .i64 ((rd_T27 l0 x3_1).f0), .int .i64 ((rd_T27 l0 x3_1).f1)]] rfl (by (try simp only [List.map_toArray, List.map_cons, List.map_nil]); first | done | rfl | (simp only [List.length_drop, List.length_take]; rfl)) ?_; (with_reducible refine (swashplateref01_Valid.calls ((rd_T27 l0 x3_1).f0) ((rd_T27 l0 x3_1).f1) false _ A6.out).mono ?_); rintro e w9 ⟨rfl, hb⟩; refine ⟨_, rfl, ?_⟩; have n0_ := Aside0.mk (below_step (bl_ HB.out) hb); clear HB; have HB := n0_; clear n0_; (try clear hb); (try clear hb2); (try clear hk); (try clear hi)))
       go_ret
       exact ⟨by first | rfl | (simp [errW_none, errW_some] <;> rfl) | (simp [*, errW_none, errW_some] <;> rfl), bl_ HB.out⟩
     ·
      rw [if_neg c5] at H
      exact absurd H (by simp)
    ·
     rw [if_neg c4] at H
     have c4b0 : decide (x3_1 < (l0.length : Int)) = false := decide_eq_false c4
     clear c4
     obtain rfl := Option.some.inj H
     go_wp2
     go_ret
     exact ⟨by first | rfl | (simp [errW_none, errW_some] <;> rfl) | (simp [*, errW_none, errW_some] <;> rfl), bl_ HB.out⟩
 ·
  replace c3 := Bool.eq_false_iff.mpr c3
  subst c3
  have H1 : (some 10) = some r := by rw [if_neg (show ¬ (false = true) by decide)] at H; exact H
  clear H
  have H := H1
  clear H1
  obtain rfl := Option.some.inj H
  go_enter Try.func28, Try.ntmps28
  go_wp2_with (first | ((with_reducible refine gate_callee (f := 37) rfl ?_); refine goesL_ (some 6) rfl rfl Try.func37 (by kernel_rfl) rfl #[.int .i64 (l0.length : Int), .int .i64 1, .int .i64 3] rfl (by (try simp only [List.map_toArray, List.map_cons, List.map_nil]); first | done | rfl | (simp only [List.length_drop, List.length_take]; rfl)) ?_; (with_reducible refine (swashplateref01_From.calls (l0.length : Int) 1 3 false _ A2.out).mono ?_); rintro e w' ⟨rfl, ⟨nd, rfl⟩⟩; refine ⟨_, rfl, ?_⟩))
  go_ret
  exact ⟨by first | rfl | (simp [errW_none, errW_some] <;> rfl) | (simp [*, errW_none, errW_some] <;> rfl), bl_ HB.out⟩
end Go.Proofs.Yteodlmgmmpkpoaa.PS
end
section
namespace Go.Proofs.Yteodlmgmmpkpoaa.PS
open Go.RowKit Go.Proofs.YteodlmgmmpkpoaaW.PrintWords Go.Proofs.YteodlmgmmpkpoaaW.PrintLast Go.Proofs.YteodlmgmmpkpoaaW.PrintMore
attribute [local go_sem] max2_int min2_int max_two min_two max_three min_three max_four min_four   -- for this text's walks alone
set_option linter.unusedVariables false
set_option linter.unusedSimpArgs false
set_option maxHeartbeats 8000000 in
set_option maxRecDepth 100000 in
theorem swashplatelaw01_box.calls (A0 : Option Addr) (c0 : Nat) (l0 : List (S27)) (r : List (S27)) (w : World) (hr0 : Kd.C k27 w A0 l0.length l0) (hc0 : l0.length ≤ c0) (h : swashplatelaw01_box.f l0 = some r) :
  Calls Try.prog 27 #[.slice A0 l0.length c0] w fun e w' => ∃ v0_ : Value, e = .returned (v0_) ∧ Kd.R k27 27 w' w.heap.size (fun _ => True) v0_ r ∧ Below w.heap.size w w' := by
 have HR0 := Aside0.mk hr0
 have HC0 := Aside0.mk hc0
 clear hr0 hc0
 have HB := Aside0.mk (Below.refl w.heap.size w)
 have H : ((some (([] : List (S27)) : List (S27))).bind fun y323 => (if y323.length + l0.length < 8796093022208 then (some (y323 ++ l0)) else (none))) = some r := h
 clear h
 obtain ⟨y323, hy323⟩ : ∃ y_ : List (S27), y_ = (([] : List (S27))) := ⟨_, rfl⟩
 replace H : (if y323.length + l0.length < 8796093022208 then (some (y323 ++ l0)) else (none)) = some r := by first | (rw [hy323]; with_reducible exact H) | (have H2_ := (Option.bind_some _ _).symm.trans H; rw [hy323]; with_reducible exact H2_) | (have H2_ := (Option.bind_some _ _).symm.trans H; with_reducible exact H2_) | with_reducible exact H | (rw [hy323]; exact H) | exact H
 have Ny323 := Aside0.mk hy323
 clear hy323
 by_cases c2 : y323.length + l0.length < 8796093022208
 ·
  rw [if_pos c2] at H
  have LMc2 := Aside0.mk c2
  clear c2
  obtain ⟨y326, hy326⟩ : ∃ y_ : List (S27), y_ = (y323 ++ l0) := ⟨_, rfl⟩
  replace H : (some y326) = some r := by first | (rw [hy326]; with_reducible exact H) | (have H2_ := (Option.bind_some _ _).symm.trans H; rw [hy326]; with_reducible exact H2_) | (have H2_ := (Option.bind_some _ _).symm.trans H; with_reducible exact H2_) | with_reducible exact H | (rw [hy326]; exact H) | exact H
  have Ny326 := Aside0.mk hy326
  clear hy326
  obtain rfl := Option.some.inj H
  go_enter Try.func27, Try.ntmps27
  go_wp2_with (first | ((with_reducible refine gate_dst (N := 3) rfl ?_); refine Kd.R_lit k27 _ 27 ?hg (N := 3) ?hd (xs := ([] : List (S27))) (inner := []) (ok := fun _ => True) (okp := fun _ => True) ?hr ?hp (fun _ hk => hk) trivial (Below.refl _ _) (Nat.le_refl _) (by simp) ?_; (case hd => rfl); (case hg => rfl); (case hr => first | (go_simp; done) | (go_simp; rfl)); (case hp => exact (Reps.none _ _)); intro v324 w3 ho4 hb hg_ hnew_; clear hg_ hnew_; (first | rw [← Ny323.out] at ho4 | (simp only [Int.reduceToNat] at ho4; rw [← Ny323.out] at ho4)); have n0_ := Aside0.mk (Kd.R_lower ho4 (below_size (bl_ HB.out))); have n1_ := Aside0.mk (below_step (bl_ HB.out) hb); clear HB; have HO325 := n0_; have HB := n1_; clear n0_ n1_ hb ho4) | ((with_reducible refine gate_builtin (b := .append) (xs := #[.tmp 3, .tmp 4]) rfl ?_); at_builtin; refine Kd.R_append_rows k27 (w0 := w) w.heap.size rfl (.tmp 3) (.tmp 4) 38 27 (.agg #[(.int .i64 0), (.int .i64 0)]) 16 rfl Try.underlying38 info27 rfl (by decide) (by omega) v324 y323 l0 _ _ _ (fun _ => True) (fun _ => False) rfl rfl ?aO ?aR (fun _ _ h => h) (fun _ h => h.elim) ?aF ?aB ?aS ?aL ?_; (case aR => exact cr_ (Kd.C_below HR0.out HB.out)); (case aB => exact (bl_ HB.out)); (case aF => exact (fun _ _ => trivial)); (case aO => exact (by (with_reducible repeat (first | apply Kd.R_alloc | apply Kd.R_drewN | apply Kd.R_drew)); exact HO325.out)); (case aS => exact (below_size (bl_ HB.out))); (case aL => have := LMc2.out; omega); intro v327 w5 ho hb hg hat; rw [← Ny326.out] at ho; have n0_ := Aside0.mk (hb); have n1_ := Aside0.mk (ho); clear HB HO325; have HB := n0_; have HO328 := n1_; clear n0_ n1_ ho hb hg hat))
  go_ret
  exact ⟨_, by first | rfl | (simp [errW_none, errW_some] <;> rfl) | (simp [*, errW_none, errW_some] <;> rfl), by (with_reducible repeat (first | apply Kd.R_alloc | apply Kd.R_drewN | apply Kd.R_drew)); exact HO328.out, bl_ HB.out⟩
 ·
  rw [if_neg c2] at H
  exact absurd H (by simp)
end Go.Proofs.Yteodlmgmmpkpoaa.PS
end
section
namespace Go.Proofs.Yteodlmgmmpkpoaa.PS
open Go.RowKit Go.Proofs.YteodlmgmmpkpoaaW.PrintWords Go.Proofs.YteodlmgmmpkpoaaW.PrintLast Go.Proofs.YteodlmgmmpkpoaaW.PrintMore
set_option linter.unusedVariables false
set_option linter.unusedSimpArgs false
theorem boxB_size {l : List S27} (h : boxB l = true) : 1 ≤ l.length ∧ l.length ≤ 3 := by
  unfold boxB at h
  simp only [Bool.and_eq_true, decide_eq_true_eq] at h
  exact h.1
end Go.Proofs.Yteodlmgmmpkpoaa.PS
end
section
namespace Go.Proofs.Yteodlmgmmpkpoaa.PS
open Go.RowKit Go.Proofs.YteodlmgmmpkpoaaW.PrintWords Go.Proofs.YteodlmgmmpkpoaaW.PrintLast Go.Proofs.YteodlmgmmpkpoaaW.PrintMore
set_option linter.unusedVariables false
set_option linter.unusedSimpArgs false
def minR (a b : List S27) : List (List S27) × Int := if boxB a && boxB b then (if a.length = b.length then (cutT [] a b, 0) else ([], 1)) else ([], 10)
end Go.Proofs.Yteodlmgmmpkpoaa.PS
end
section
namespace Go.Proofs.Yteodlmgmmpkpoaa.PS
open Go.RowKit Go.Proofs.YteodlmgmmpkpoaaW.PrintWords Go.Proofs.YteodlmgmmpkpoaaW.PrintLast Go.Proofs.YteodlmgmmpkpoaaW.PrintMore
attribute [local go_sem] max2_int min2_int max_two min_two max_three min_three max_four min_four   -- for this text's walks alone
set_option linter.unusedVariables false
set_option linter.unusedSimpArgs false
def swashplateref01_In.l0 : Nat → List Int → List (S27) → Int → Option (Bool)
 | 0, _, _, _ => none
 | k + 1, x0, x1, x5 => if x5 < (x1.length : Int) then (if 0 ≤ x5 then (if x5 < (x0.length : Int) then ((swashplateref01_From.f (rd x0 x5) ((rd_T27 x1 x5).f0) ((rd_T27 x1 x5).f1)).bind fun t663 => (if t663 = true then (swashplateref01_In.l0 k x0 x1 (wrap64 (x5 + 1))) else (some false))) else (none)) else (none)) else (some true)
def swashplateref01_In.f (k : Nat) (l0 : List Int) (l1 : List (S27)) : Option (Bool) := swashplateref01_In.l0 k l0 l1 0
set_option maxHeartbeats 8000000 in
set_option maxRecDepth 100000 in
theorem swashplateref01_In.calls (k : Nat) (A0 : Option Addr) (c0 : Nat) (l0 : List Int) (A1 : Option Addr) (c1 : Nat) (l1 : List (S27)) (r : Bool) (w : World) (hr0 : Kd.C (Kd.int .i64) w A0 l0.length l0) (hc0 : l0.length ≤ c0) (hr1 : Kd.C k27 w A1 l1.length l1) (hc1 : l1.length ≤ c1) (h : swashplateref01_In.f k l0 l1 = some r) :
  Calls Try.prog 63 #[.slice A0 l0.length c0, .slice A1 l1.length c1] w fun e w' => e = .returned (.bool r) ∧ Drawn0 w w' := by
 have HR0 := Aside0.mk hr0
 have HC0 := Aside0.mk hc0
 clear hr0 hc0
 have HR1 := Aside0.mk hr1
 have HC1 := Aside0.mk hc1
 clear hr1 hc1
 have H : (swashplateref01_In.l0 k l0 l1 0) = some r := h
 clear h
 have H' := Aside0.mk H
 clear H
 go_enter Try.func63, Try.ntmps63
 go_wp2
 go_loopg [5] k (fun kq v5 w' => ∃ (x5_1 : Int), v5 = .int .i64 x5_1 ∧ Aside0 (swashplateref01_In.l0 kq l0 l1 x5_1 = some r) ∧ Aside0 (kq ≤ k) ∧ Drawn0 w w')
 case atStart => exact ⟨(0), (by first | rfl | (simp; done) | (simp [*]; done)), H', ⟨Nat.le_refl _⟩, by repeat (first | exact Drawn0.refl _ | apply Drawn0.step)⟩
 case round =>
  clear H'
  try clear c1
  try clear p2
  obtain ⟨x5_1, rfl, HA, HK1, ⟨m1, rfl⟩⟩ := hrel
  cases gk with
  | zero => exact absurd HA.out (by simp [swashplateref01_In.l0])
  | succ k1 =>
   have H := HA.out
   clear HA
   simp only [swashplateref01_In.l0] at H
   by_cases c3 : x5_1 < (l1.length : Int)
   ·
    rw [if_pos c3] at H
    have c3b0 : decide (x5_1 < (l1.length : Int)) = true := decide_eq_true c3
    clear c3
    by_cases c4 : 0 ≤ x5_1
    ·
     rw [if_pos c4] at H
     have c4b0 : decide (0 ≤ x5_1) = true := decide_eq_true c4
     clear c4
     by_cases c5 : x5_1 < (l0.length : Int)
     ·
      rw [if_pos c5] at H
      have c5b0 : decide (x5_1 < (l0.length : Int)) = true := decide_eq_true c5
      clear c5
      replace H := Option.bind_eq_some_iff.mp H
      obtain ⟨t663, A60, H⟩ := H
      replace H : (if t663 = true then (swashplateref01_In.l0 k1 l0 l1 (wrap64 (x5_1 + 1))) else (some false)) = some r := H
      have A6 := Aside0.mk A60
      clear A60
      by_cases c7 : t663 = true
      ·
       subst c7
       have H1 : (swashplateref01_In.l0 k1 l0 l1 (wrap64 (x5_1 + 1))) = some r := by rw [if_pos rfl] at H; exact H
       clear H
       have H := H1
       clear H1
       have H' := Aside0.mk H
       clear H
       have p660 : 0 ≤ (x5_1 : Int) := of_decide_eq_true (by first | (with_reducible assumption) | assumption)
       have q660 : x5_1 < (l0.length : Int) := of_decide_eq_true (by first | (with_reducible assumption) | assumption)
       obtain ⟨ad660, e660, hx660_0⟩ := Kd.at_int HR0.out x5_1 p660 q660
       cases e660
       replace p660 := eq_true p660
       replace q660 := eq_true q660
       have p661 : 0 ≤ (x5_1 : Int) := of_decide_eq_true (by first | (with_reducible assumption) | assumption)
       have q661 : x5_1 < (l1.length : Int) := of_decide_eq_true (by first | (with_reducible assumption) | assumption)
       obtain ⟨ad661, e661, hx661_0, hx661_1⟩ := at_T27 HR1.out x5_1 p661 q661
       cases e661
       replace p661 := eq_true p661
       replace q661 := eq_true q661
       have p662 : 0 ≤ (x5_1 : Int) := of_decide_eq_true (by first | (with_reducible assumption) | assumption)
       have q662 : x5_1 < (l1.length : Int) := of_decide_eq_true (by first | (with_reducible assumption) | assumption)
       obtain ⟨ad662, e662, hx662_0, hx662_1⟩ := at_T27 HR1.out x5_1 p662 q662
       obtain rfl : ad661 = ad662 := (by injection e662)
       replace p662 := eq_true p662
       replace q662 := eq_true q662
       go_wp2_with (first | (go_at_call 37; (with_reducible refine (swashplateref01_From.calls (rd l0 x5_1) ((rd_T27 l1 x5_1).f0) ((rd_T27 l1 x5_1).f1) true _ A6.out).mono ?_); rintro e w' ⟨rfl, ⟨nd, rfl⟩⟩; (try first | exact ⟨rfl, _, World.drewN_drewN _ _ _⟩ | exact ⟨rfl, _, Eq.trans (World.drewN_drewN _ _ _) (congrArg (World.drewN _) (Nat.add_assoc _ _ _))⟩)))
       repeat (go_quiet (first | (go_at_call 37; (with_reducible refine (swashplateref01_From.calls (rd l0 x5_1) ((rd_T27 l1 x5_1).f0) ((rd_T27 l1 x5_1).f1) true _ A6.out).mono ?_); rintro e w' ⟨rfl, ⟨nd, rfl⟩⟩; (try first | exact ⟨rfl, _, World.drewN_drewN _ _ _⟩ | exact ⟨rfl, _, Eq.trans (World.drewN_drewN _ _ _) (congrArg (World.drewN _) (Nat.add_assoc _ _ _))⟩))); try go_wp2_with (first | (go_at_call 37; (with_reducible refine (swashplateref01_From.calls (rd l0 x5_1) ((rd_T27 l1 x5_1).f0) ((rd_T27 l1 x5_1).f1) true _ A6.out).mono ?_); rintro e w' ⟨rfl, ⟨nd, rfl⟩⟩; (try first | exact ⟨rfl, _, World.drewN_drewN _ _ _⟩ | exact ⟨rfl, _, Eq.trans (World.drewN_drewN _ _ _) (congrArg (World.drewN _) (Nat.add_assoc _ _ _))⟩))))
       go_roundg k1
       case measure => have := HK1.out; omega
       case rel => exact ⟨(wrap64 (x5_1 + 1)), (by first | rfl | (simp; done) | (simp [*]; done)), H', ⟨by have := HK1.out; omega⟩, by repeat (first | exact Drawn0.refl _ | apply Drawn0.step)⟩
      ·
       replace c7 := Bool.eq_false_iff.mpr c7
       subst c7
       have H1 : (some false) = some r := by rw [if_neg (show ¬ (false = true) by decide)] at H; exact H
       clear H
       have H := H1
       clear H1
       obtain rfl := Option.some.inj H
       have p660 : 0 ≤ (x5_1 : Int) := of_decide_eq_true (by first | (with_reducible assumption) | assumption)
       have q660 : x5_1 < (l0.length : Int) := of_decide_eq_true (by first | (with_reducible assumption) | assumption)
       obtain ⟨ad660, e660, hx660_0⟩ := Kd.at_int HR0.out x5_1 p660 q660
       cases e660
       replace p660 := eq_true p660
       replace q660 := eq_true q660
       have p661 : 0 ≤ (x5_1 : Int) := of_decide_eq_true (by first | (with_reducible assumption) | assumption)
       have q661 : x5_1 < (l1.length : Int) := of_decide_eq_true (by first | (with_reducible assumption) | assumption)
       obtain ⟨ad661, e661, hx661_0, hx661_1⟩ := at_T27 HR1.out x5_1 p661 q661
       cases e661
       replace p661 := eq_true p661
       replace q661 := eq_true q661
       have p662 : 0 ≤ (x5_1 : Int) := of_decide_eq_true (by first | (with_reducible assumption) | assumption)
       have q662 : x5_1 < (l1.length : Int) := of_decide_eq_true (by first | (with_reducible assumption) | assumption)
       obtain ⟨ad662, e662, hx662_0, hx662_1⟩ := at_T27 HR1.out x5_1 p662 q662
       obtain rfl : ad661 = ad662 := (by injection e662)
       replace p662 := eq_true p662
       replace q662 := eq_true q662
       go_wp2_with (first | (go_at_call 37; (with_reducible refine (swashplateref01_From.calls (rd l0 x5_1) ((rd_T27 l1 x5_1).f0) ((rd_T27 l1 x5_1).f1) false _ A6.out).mono ?_); rintro e w' ⟨rfl, ⟨nd, rfl⟩⟩; (try first | exact ⟨rfl, _, World.drewN_drewN _ _ _⟩ | exact ⟨rfl, _, Eq.trans (World.drewN_drewN _ _ _) (congrArg (World.drewN _) (Nat.add_assoc _ _ _))⟩)))
       repeat (go_quiet (first | (go_at_call 37; (with_reducible refine (swashplateref01_From.calls (rd l0 x5_1) ((rd_T27 l1 x5_1).f0) ((rd_T27 l1 x5_1).f1) false _ A6.out).mono ?_); rintro e w' ⟨rfl, ⟨nd, rfl⟩⟩; (try first | exact ⟨rfl, _, World.drewN_drewN _ _ _⟩ | exact ⟨rfl, _, Eq.trans (World.drewN_drewN _ _ _) (congrArg (World.drewN _) (Nat.add_assoc _ _ _))⟩))); try go_wp2_with (first | (go_at_call 37; (with_reducible refine (swashplateref01_From.calls (rd l0 x5_1) ((rd_T27 l1 x5_1).f0) ((rd_T27 l1 x5_1).f1) false _ A6.out).mono ?_); rintro e w' ⟨rfl, ⟨nd, rfl⟩⟩; (try first | exact ⟨rfl, _, World.drewN_drewN _ _ _⟩ | exact ⟨rfl, _, Eq.trans (World.drewN_drewN _ _ _) (congrArg (World.drewN _) (Nat.add_assoc _ _ _))⟩))))
       go_ret
       exact ⟨by first | rfl | (simp; done) | (simp [*]; done), by repeat (first | exact Drawn0.refl _ | apply Drawn0.step)⟩
     ·
      rw [if_neg c5] at H
      exact absurd H (by simp)
    ·
     rw [if_neg c4] at H
     exact absurd H (by simp)
   ·
    rw [if_neg c3] at H
    have c3b0 : decide (x5_1 < (l1.length : Int)) = false := decide_eq_false c3
    clear c3
    obtain rfl := Option.some.inj H
    go_wp2
    go_ret
    exact ⟨by first | rfl | (simp; done) | (simp [*]; done), by repeat (first | exact Drawn0.refl _ | apply Drawn0.step)⟩
end Go.Proofs.Yteodlmgmmpkpoaa.PS
end
section
namespace Go.Proofs.Yteodlmgmmpkpoaa.PS
open Go.RowKit Go.Proofs.YteodlmgmmpkpoaaW.PrintWords Go.Proofs.YteodlmgmmpkpoaaW.PrintLast Go.Proofs.YteodlmgmmpkpoaaW.PrintMore
attribute [local go_sem] max2_int min2_int max_two min_two max_three min_three max_four min_four   -- for this text's walks alone
set_option linter.unusedVariables false
set_option linter.unusedSimpArgs false
mutual
def swashplatelaw01_SpansLost.j0 : Nat → List (S27) → List (S27) → List Int → Bool → Option (Bool)
 | 0, _, _, _, _ => none
 | k + 1, x0, x1, x2, x32 => if x32 = true then ((swashplatelaw01_works.f k).bind fun t666 => (some t666)) else ((swashplatelaw01_box.f x0).bind fun t667 => ((swashplatelaw01_box.f x1).bind fun t670 => ((spans_Minus.f t667 t670).bind fun bt673 => (if bt673.2 = 0 then (swashplatelaw01_SpansLost.l0 k x0 x1 x2 bt673.1 0 0) else (some false)))))
def swashplatelaw01_SpansLost.l0 : Nat → List (S27) → List (S27) → List Int → List (List (S27)) → Int → Int → Option (Bool)
 | 0, _, _, _, _, _, _ => none
 | k + 1, x0, x1, x2, x7, x9, x10 => if x10 < (x7.length : Int) then (if 0 ≤ x10 then ((swashplateref01_Check.f k (rd_L2 x7 x10)).bind fun t678 => (if t678 = 0 then (swashplatelaw01_SpansLost.j2 k x0 x1 x2 x7 x9 x10 (((rd_L2 x7 x10).length : Int) != (x0.length : Int))) else (swashplatelaw01_SpansLost.j2 k x0 x1 x2 x7 x9 x10 true))) else (none)) else ((swashplateref01_In.f k x2 x0).bind fun t682 => (if t682 = true then ((swashplateref01_In.f k x2 x1).bind fun t683 => (swashplatelaw01_SpansLost.j3 k x9 (!t683))) else (swashplatelaw01_SpansLost.j3 k x9 false)))
def swashplatelaw01_SpansLost.j2 : Nat → List (S27) → List (S27) → List Int → List (List (S27)) → Int → Int → Bool → Option (Bool)
 | 0, _, _, _, _, _, _, _ => none
 | k + 1, x0, x1, x2, x7, x9, x10, x65 => if x65 = true then (some false) else (if 0 ≤ x10 then (if x10 < (x7.length : Int) then ((swashplateref01_In.f k x2 (rd_L2 x7 x10)).bind fun t681 => (if t681 = true then (swashplatelaw01_SpansLost.l0 k x0 x1 x2 x7 (wrap64 (x9 + 1)) (wrap64 (x10 + 1))) else (swashplatelaw01_SpansLost.l0 k x0 x1 x2 x7 x9 (wrap64 (x10 + 1))))) else (none)) else (none))
def swashplatelaw01_SpansLost.j3 : Nat → Int → Bool → Option (Bool)
 | 0, _, _ => none
 | k + 1, x9, x82 => if x82 = true then (if x9 = 1 then ((swashplatelaw01_works.f k).bind fun t684 => (some t684)) else (some false)) else (if x9 = 0 then ((swashplatelaw01_works.f k).bind fun t685 => (some t685)) else (some false))
end
def swashplatelaw01_SpansLost.f (k : Nat) (l0 : List (S27)) (l1 : List (S27)) (l2 : List Int) : Option (Bool) := (swashplateref01_Check.f k l0).bind fun t664 => (if t664 = 0 then ((swashplateref01_Check.f k l1).bind fun t665 => (if t665 = 0 then (if (l0.length : Int) = (l1.length : Int) then (swashplatelaw01_SpansLost.j0 k l0 l1 l2 ((l2.length : Int) != (l0.length : Int))) else (swashplatelaw01_SpansLost.j0 k l0 l1 l2 true)) else (swashplatelaw01_SpansLost.j0 k l0 l1 l2 true))) else (swashplatelaw01_SpansLost.j0 k l0 l1 l2 true))
set_option maxHeartbeats 8000000 in
set_option maxRecDepth 100000 in
theorem swashplatelaw01_SpansLost.calls (k : Nat) (A0 : Option Addr) (c0 : Nat) (l0 : List (S27)) (A1 : Option Addr) (c1 : Nat) (l1 : List (S27)) (A2 : Option Addr) (c2 : Nat) (l2 : List Int) (r : Bool) (w : World) (hr0 : Kd.C k27 w A0 l0.length l0) (hc0 : l0.length ≤ c0) (hr1 : Kd.C k27 w A1 l1.length l1) (hc1 : l1.length ≤ c1) (hr2 : Kd.C (Kd.int .i64) w A2 l2.length l2) (hc2 : l2.length ≤ c2) (h : swashplatelaw01_SpansLost.f k l0 l1 l2 = some r) (hrT : Aside0 (r = true)) :
  Calls Try.prog 14 #[.slice A0 l0.length c0, .slice A1 l1.length c1, .slice A2 l2.length c2] w fun e w' => e = .returned (.bool r) ∧ Below w.heap.size w w' := by
 have HR0 := Aside0.mk hr0
 have HC0 := Aside0.mk hc0
 clear hr0 hc0
 have HR1 := Aside0.mk hr1
 have HC1 := Aside0.mk hc1
 clear hr1 hc1
 have HR2 := Aside0.mk hr2
 have HC2 := Aside0.mk hc2
 clear hr2 hc2
 have HB := Aside0.mk (Below.refl w.heap.size w)
 have H : ((swashplateref01_Check.f k l0).bind fun t664 => (if t664 = 0 then ((swashplateref01_Check.f k l1).bind fun t665 => (if t665 = 0 then (if (l0.length : Int) = (l1.length : Int) then (swashplatelaw01_SpansLost.j0 k l0 l1 l2 ((l2.length : Int) != (l0.length : Int))) else (swashplatelaw01_SpansLost.j0 k l0 l1 l2 true)) else (swashplatelaw01_SpansLost.j0 k l0 l1 l2 true))) else (swashplatelaw01_SpansLost.j0 k l0 l1 l2 true))) = some r := h
 clear h
 have HC4 := Aside0.mk H
 clear H
 go_enter Try.func14, Try.ntmps14
 go_upto_region 1 with (fail)
 go_cut [32] (fun v32 wc => ∃ (kq : Nat) (x32_3 : Bool), v32 = .bool x32_3 ∧ Aside0 (swashplatelaw01_SpansLost.j0 kq l0 l1 l2 x32_3 = some r) ∧ Aside0 (kq ≤ k) ∧ Aside0 (Below w.heap.size w wc))
 case first =>
  have H := HC4.out
  clear HC4
  replace H := Option.bind_eq_some_iff.mp H
  obtain ⟨t664, A50, H⟩ := H
  replace H : (if t664 = 0 then ((swashplateref01_Check.f k l1).bind fun t665 => (if t665 = 0 then (if (l0.length : Int) = (l1.length : Int) then (swashplatelaw01_SpansLost.j0 k l0 l1 l2 ((l2.length : Int) != (l0.length : Int))) else (swashplatelaw01_SpansLost.j0 k l0 l1 l2 true)) else (swashplatelaw01_SpansLost.j0 k l0 l1 l2 true))) else (swashplatelaw01_SpansLost.j0 k l0 l1 l2 true)) = some r := H
  have A5 := Aside0.mk A50
  clear A50
  by_cases c6 : t664 = 0
  ·
   rw [if_pos c6] at H
   have c6b0 : (t664 == 0) = true := beq_iff_eq.mpr c6
   have c6b1 : (t664 != 0) = false := bne_eq_false_iff_eq.mpr c6
   clear c6
   (first | rw [c6b0] | (simp only [i64_w, i32_w]; rw [c6b0]) | skip)
   replace H := Option.bind_eq_some_iff.mp H
   obtain ⟨t665, A70, H⟩ := H
   replace H : (if t665 = 0 then (if (l0.length : Int) = (l1.length : Int) then (swashplatelaw01_SpansLost.j0 k l0 l1 l2 ((l2.length : Int) != (l0.length : Int))) else (swashplatelaw01_SpansLost.j0 k l0 l1 l2 true)) else (swashplatelaw01_SpansLost.j0 k l0 l1 l2 true)) = some r := H
   have A7 := Aside0.mk A70
   clear A70
   by_cases c8 : t665 = 0
   ·
    rw [if_pos c8] at H
    have c8b0 : (t665 == 0) = true := beq_iff_eq.mpr c8
    have c8b1 : (t665 != 0) = false := bne_eq_false_iff_eq.mpr c8
    clear c8
    by_cases c9 : (l0.length : Int) = (l1.length : Int)
    ·
     rw [if_pos c9] at H
     have c9b0 : ((l0.length : Int) == (l1.length : Int)) = true := beq_iff_eq.mpr c9
     have c9b1 : ((l0.length : Int) != (l1.length : Int)) = false := bne_eq_false_iff_eq.mpr c9
     have c9b2 : (l0.length == l1.length) = true := by first | simpa using c9 | (simp at c9 ⊢; omega)
     clear c9
     have H' := Aside0.mk H
     clear H
     go_wp2_with (first | ((with_reducible refine gate_callee (f := 28) rfl ?_); refine goesL_ (some 12) rfl rfl Try.func28 (by kernel_rfl) rfl #[.slice A0 l0.length c0] rfl (by (try simp only [List.map_toArray, List.map_cons, List.map_nil]); first | done | rfl | (simp only [List.length_drop, List.length_take]; rfl)) ?_; (with_reducible refine (swashplateref01_Check.calls k _ _ l0 t664 _ ?side1 ?side2 A5.out).mono ?_); (case side1 => exact cr_ (Kd.C_below HR0.out HB.out)); (case side2 => exact HC0.out); rintro e w10 ⟨rfl, hb⟩; refine ⟨_, rfl, ?_⟩; have n0_ := Aside0.mk (below_step (bl_ HB.out) hb); clear HB; have HB := n0_; clear n0_; (try clear hb); (try clear hb2); (try clear hk); (try clear hi)) | (go_at_call 28; (with_reducible refine (swashplateref01_Check.calls k _ _ l1 t665 _ ?side1 ?side2 A7.out).mono ?_); (case side1 => exact cr_ (Kd.C_below HR1.out HB.out)); (case side2 => exact HC1.out); rintro e w11 ⟨rfl, hb⟩; have n0_ := Aside0.mk (below_step (bl_ HB.out) hb); clear HB; have HB := n0_; clear n0_; (try clear hb); (try clear hb2); (try clear hk); (try clear hi)))
     go_meet
     case rel => exact ⟨_, (((l2.length : Int) != (l0.length : Int))), (by first | rfl | (simp; done) | (simp [*]; done)), H', ⟨by first | omega | exact Nat.le_refl _⟩, ⟨bl_ HB.out⟩⟩
    ·
     rw [if_neg c9] at H
     have c9b0 : ((l0.length : Int) == (l1.length : Int)) = false := beq_eq_false_iff_ne.mpr c9
     have c9b1 : ((l0.length : Int) != (l1.length : Int)) = true := bne_iff_ne.mpr c9
     have c9b2 : (l0.length == l1.length) = false := by first | simpa using c9 | (simp at c9 ⊢; omega)
     have H' := Aside0.mk H
     clear H
     go_wp2_with (first | ((with_reducible refine gate_callee (f := 28) rfl ?_); refine goesL_ (some 12) rfl rfl Try.func28 (by kernel_rfl) rfl #[.slice A0 l0.length c0] rfl (by (try simp only [List.map_toArray, List.map_cons, List.map_nil]); first | done | rfl | (simp only [List.length_drop, List.length_take]; rfl)) ?_; (with_reducible refine (swashplateref01_Check.calls k _ _ l0 t664 _ ?side1 ?side2 A5.out).mono ?_); (case side1 => exact cr_ (Kd.C_below HR0.out HB.out)); (case side2 => exact HC0.out); rintro e w12 ⟨rfl, hb⟩; refine ⟨_, rfl, ?_⟩; have n0_ := Aside0.mk (below_step (bl_ HB.out) hb); clear HB; have HB := n0_; clear n0_; (try clear hb); (try clear hb2); (try clear hk); (try clear hi)) | (go_at_call 28; (with_reducible refine (swashplateref01_Check.calls k _ _ l1 t665 _ ?side1 ?side2 A7.out).mono ?_); (case side1 => exact cr_ (Kd.C_below HR1.out HB.out)); (case side2 => exact HC1.out); rintro e w13 ⟨rfl, hb⟩; have n0_ := Aside0.mk (below_step (bl_ HB.out) hb); clear HB; have HB := n0_; clear n0_; (try clear hb); (try clear hb2); (try clear hk); (try clear hi)))
     go_meet
     case rel => exact ⟨_, (true), (by first | rfl | (simp; done) | (simp [*]; done)), H', ⟨by first | omega | exact Nat.le_refl _⟩, ⟨bl_ HB.out⟩⟩
   ·
    rw [if_neg c8] at H
    have c8b0 : (t665 == 0) = false := beq_eq_false_iff_ne.mpr c8
    have c8b1 : (t665 != 0) = true := bne_iff_ne.mpr c8
    have H' := Aside0.mk H
    clear H
    go_wp2_with (first | ((with_reducible refine gate_callee (f := 28) rfl ?_); refine goesL_ (some 12) rfl rfl Try.func28 (by kernel_rfl) rfl #[.slice A0 l0.length c0] rfl (by (try simp only [List.map_toArray, List.map_cons, List.map_nil]); first | done | rfl | (simp only [List.length_drop, List.length_take]; rfl)) ?_; (with_reducible refine (swashplateref01_Check.calls k _ _ l0 t664 _ ?side1 ?side2 A5.out).mono ?_); (case side1 => exact cr_ (Kd.C_below HR0.out HB.out)); (case side2 => exact HC0.out); rintro e w14 ⟨rfl, hb⟩; refine ⟨_, rfl, ?_⟩; have n0_ := Aside0.mk (below_step (bl_ HB.out) hb); clear HB; have HB := n0_; clear n0_; (try clear hb); (try clear hb2); (try clear hk); (try clear hi)) | (go_at_call 28; (with_reducible refine (swashplateref01_Check.calls k _ _ l1 t665 _ ?side1 ?side2 A7.out).mono ?_); (case side1 => exact cr_ (Kd.C_below HR1.out HB.out)); (case side2 => exact HC1.out); rintro e w15 ⟨rfl, hb⟩; have n0_ := Aside0.mk (below_step (bl_ HB.out) hb); clear HB; have HB := n0_; clear n0_; (try clear hb); (try clear hb2); (try clear hk); (try clear hi)))
    go_meet
    case rel => exact ⟨_, (true), (by first | rfl | (simp; done) | (simp [*]; done)), H', ⟨by first | omega | exact Nat.le_refl _⟩, ⟨bl_ HB.out⟩⟩
  ·
   rw [if_neg c6] at H
   have c6b0 : (t664 == 0) = false := beq_eq_false_iff_ne.mpr c6
   have c6b1 : (t664 != 0) = true := bne_iff_ne.mpr c6
   (first | rw [c6b0] | (simp only [i64_w, i32_w]; rw [c6b0]) | skip)
   have H' := Aside0.mk H
   clear H
   go_wp2_with (first | ((with_reducible refine gate_callee (f := 28) rfl ?_); refine goesL_ (some 12) rfl rfl Try.func28 (by kernel_rfl) rfl #[.slice A0 l0.length c0] rfl (by (try simp only [List.map_toArray, List.map_cons, List.map_nil]); first | done | rfl | (simp only [List.length_drop, List.length_take]; rfl)) ?_; (with_reducible refine (swashplateref01_Check.calls k _ _ l0 t664 _ ?side1 ?side2 A5.out).mono ?_); (case side1 => exact cr_ (Kd.C_below HR0.out HB.out)); (case side2 => exact HC0.out); rintro e w16 ⟨rfl, hb⟩; refine ⟨_, rfl, ?_⟩; have n0_ := Aside0.mk (below_step (bl_ HB.out) hb); clear HB; have HB := n0_; clear n0_; (try clear hb); (try clear hb2); (try clear hk); (try clear hi)))
   go_meet
   case rel => exact ⟨_, (true), (by first | rfl | (simp; done) | (simp [*]; done)), H', ⟨by first | omega | exact Nat.le_refl _⟩, ⟨bl_ HB.out⟩⟩
 case rest =>
  clear HC4
  try clear c1
  try clear c2
  try clear p2
  try clear c6
  try clear c6b0
  try clear c6b1
  try clear c8
  try clear c8b0
  try clear c8b1
  try clear c9
  try clear c9b0
  try clear c9b1
  try clear c9b2
  try clear c14
  obtain ⟨kq, x32_3, rfl, HA, HJ3, HB⟩ := hcut
  cases kq with
  | zero => exact absurd HA.out (by simp [swashplatelaw01_SpansLost.j0])
  | succ kj3 =>
   have H := HA.out
   clear HA
   simp only [swashplatelaw01_SpansLost.j0] at H
   by_cases c17 : x32_3 = true
   ·
    subst c17
    have H1 : ((swashplatelaw01_works.f kj3).bind fun t666 => (some t666)) = some r := by rw [if_pos rfl] at H; exact H
    clear H
    have H := H1
    clear H1
    replace H := Option.bind_eq_some_iff.mp H
    obtain ⟨t666, A180, H⟩ := H
    replace H : (some t666) = some r := H
    have A18 := Aside0.mk A180
    clear A180
    obtain rfl := Option.some.inj H
    go_wp2_with (first | ((with_reducible refine gate_callee (f := 22) rfl ?_); refine goesL_ (some 33) rfl rfl Try.func22 (by kernel_rfl) rfl #[] rfl (by (try simp only [List.map_toArray, List.map_cons, List.map_nil]); first | done | rfl | (simp only [List.length_drop, List.length_take]; rfl)) ?_; (with_reducible refine (swashplatelaw01_works.calls kj3  t666 _ A18.out).mono ?_); rintro e w19 ⟨rfl, hb⟩; refine ⟨_, rfl, ?_⟩; have n0_ := Aside0.mk (below_step (bl_ HB.out) hb); clear HB; have HB := n0_; clear n0_; (try clear hb); (try clear hb2); (try clear hk); (try clear hi)))
    go_ret
    exact ⟨by first | rfl | (simp [errW_none, errW_some] <;> rfl) | (simp [*, errW_none, errW_some] <;> rfl), bl_ HB.out⟩
   ·
    replace c17 := Bool.eq_false_iff.mpr c17
    subst c17
    have H1 : ((swashplatelaw01_box.f l0).bind fun t667 => ((swashplatelaw01_box.f l1).bind fun t670 => ((spans_Minus.f t667 t670).bind fun bt673 => (if bt673.2 = 0 then (swashplatelaw01_SpansLost.l0 kj3 l0 l1 l2 bt673.1 0 0) else (some false))))) = some r := by rw [if_neg (show ¬ (false = true) by decide)] at H; exact H
    clear H
    have H := H1
    clear H1
    replace H := Option.bind_eq_some_iff.mp H
    obtain ⟨t667, A200, H⟩ := H
    replace H : ((swashplatelaw01_box.f l1).bind fun t670 => ((spans_Minus.f t667 t670).bind fun bt673 => (if bt673.2 = 0 then (swashplatelaw01_SpansLost.l0 kj3 l0 l1 l2 bt673.1 0 0) else (some false)))) = some r := H
    have A20 := Aside0.mk A200
    clear A200
    replace H := Option.bind_eq_some_iff.mp H
    obtain ⟨t670, A210, H⟩ := H
    replace H : ((spans_Minus.f t667 t670).bind fun bt673 => (if bt673.2 = 0 then (swashplatelaw01_SpansLost.l0 kj3 l0 l1 l2 bt673.1 0 0) else (some false))) = some r := H
    have A21 := Aside0.mk A210
    clear A210
    replace H := Option.bind_eq_some_iff.mp H
    obtain ⟨⟨t673, t674⟩, A220, H⟩ := H
    replace H : (if t674 = 0 then (swashplatelaw01_SpansLost.l0 kj3 l0 l1 l2 t673 0 0) else (some false)) = some r := H
    have A22 := Aside0.mk A220
    clear A220
    by_cases c23 : t674 = 0
    ·
     rw [if_pos c23] at H
     have c23b0 : (t674 == 0) = true := beq_iff_eq.mpr c23
     have c23b1 : (t674 != 0) = false := bne_eq_false_iff_eq.mpr c23
     clear c23
     have H' := Aside0.mk H
     clear H
     go_wp2_with (first | ((with_reducible refine gate_callee (f := 27) rfl ?_); refine goesL_ (some 36) rfl rfl Try.func27 (by kernel_rfl) rfl #[.slice A0 l0.length c0] rfl (by (try simp only [List.map_toArray, List.map_cons, List.map_nil]); first | done | rfl | (simp only [List.length_drop, List.length_take]; rfl)) ?_; (with_reducible refine (swashplatelaw01_box.calls _ _ l0 t667 _ ?side1 ?side2 A20.out).mono ?_); (case side1 => exact cr_ (Kd.C_below HR0.out HB.out)); (case side2 => exact HC0.out); rintro e w24 ⟨v668, rfl, ho0, hb⟩; refine ⟨_, rfl, ?_⟩; have n0_ := Aside0.mk (Kd.R_lower ho0 (below_size (bl_ HB.out))); have n1_ := Aside0.mk (below_step (bl_ HB.out) hb); clear HB; have HO669 := n0_; have HB := n1_; clear n0_ n1_; (try clear hb); (try clear hb2); (try clear hk); (try clear hi); (try clear ho0)) | ((with_reducible refine gate_callee (f := 27) rfl ?_); refine goesL_ (some 38) rfl rfl Try.func27 (by kernel_rfl) rfl #[.slice A1 l1.length c1] rfl (by (try simp only [List.map_toArray, List.map_cons, List.map_nil]); first | done | rfl | (simp only [List.length_drop, List.length_take]; rfl)) ?_; (with_reducible refine (swashplatelaw01_box.calls _ _ l1 t670 _ ?side1 ?side2 A21.out).mono ?_); (case side1 => exact cr_ (Kd.C_below HR1.out HB.out)); (case side2 => exact HC1.out); rintro e w25 ⟨v671, rfl, ho0, hb⟩; refine ⟨_, rfl, ?_⟩; have n0_ := Aside0.mk (Kd.R_elder' (by (with_reducible repeat (first | apply Kd.R_alloc | apply Kd.R_drewN | apply Kd.R_drew)); exact HO669.out) (Kd.R_base ho0) hb); have n1_ := Aside0.mk (Kd.R_lower (Kd.R_new' ho0 (Kd.R_lt (by (with_reducible repeat (first | apply Kd.R_alloc | apply Kd.R_drewN | apply Kd.R_drew)); exact HO669.out))) (below_size (bl_ HB.out))); have n2_ := Aside0.mk (below_step (bl_ HB.out) hb); clear HO669 HB; have HO669 := n0_; have HO672 := n1_; have HB := n2_; clear n0_ n1_ n2_; (try clear hb); (try clear hb2); (try clear hk); (try clear hi); (try clear ho0); obtain ⟨Ao26, co26, eo26⟩ := Kd.R_slice HO669.out; subst eo26; obtain ⟨Ao27, co27, eo27⟩ := Kd.R_slice HO672.out; subst eo27) | ((with_reducible refine gate_callee (f := 60) rfl ?_); refine goesL_ (some 39) rfl rfl Try.func60 (by kernel_rfl) rfl #[.slice Ao26 t667.length co26, .slice Ao27 t670.length co27] rfl (by (try simp only [List.map_toArray, List.map_cons, List.map_nil]); first | done | rfl | (simp only [List.length_drop, List.length_take]; rfl)) ?_; (with_reducible refine (spans_Minus.calls _ _ t667 _ _ t670 t673 t674 _ ?side1 ?side2 ?side3 ?side4 A22.out).mono ?_); (case side1 => exact cr_ (Kd.R_reads' HO669.out).2.2); (case side2 => exact (Kd.R_reads' HO669.out).2.1); (case side3 => exact cr_ (Kd.R_reads' HO672.out).2.2); (case side4 => exact (Kd.R_reads' HO672.out).2.1); rintro e w28 ⟨v675, rfl, ho0, hb⟩; refine ⟨_, rfl, ?_⟩; have n0_ := Aside0.mk (Kd.R_below (by (with_reducible repeat (first | apply Kd.R_alloc | apply Kd.R_drewN | apply Kd.R_drew)); exact HO669.out) hb); have n1_ := Aside0.mk (Kd.R_below (by (with_reducible repeat (first | apply Kd.R_alloc | apply Kd.R_drewN | apply Kd.R_drew)); exact HO672.out) hb); have n2_ := Aside0.mk (Kd.S_lower (Kd.S_new' (Kd.S_new' ho0 (Kd.R_lt (by (with_reducible repeat (first | apply Kd.R_alloc | apply Kd.R_drewN | apply Kd.R_drew)); exact HO669.out))) (Kd.R_lt (by (with_reducible repeat (first | apply Kd.R_alloc | apply Kd.R_drewN | apply Kd.R_drew)); exact HO672.out))) (below_size (bl_ HB.out))); have n3_ := Aside0.mk (below_step (bl_ HB.out) hb); clear HO669 HO672 HB; have HO669 := n0_; have HO672 := n1_; have HO676 := n2_; have HB := n3_; clear n0_ n1_ n2_ n3_; (try clear hb); (try clear hb2); (try clear hk); (try clear hi); (try clear ho0)))
     go_loopg [9, 10] kj3 (fun kq v9 v10 w' => ∃ (x9_2 : Int) (x10_2 : Int), v9 = .int .i64 x9_2 ∧ v10 = .int .i64 x10_2 ∧ Aside0 (swashplatelaw01_SpansLost.l0 kq l0 l1 l2 t673 x9_2 x10_2 = some r) ∧ Aside0 (kq ≤ kj3) ∧ Aside0 (Kd.S (Kd.slice 27 k27) 38 w' w.heap.size (fun _ => True) v675 t673) ∧ Aside0 (Below w.heap.size w w'))
     case atStart => exact ⟨(0), (0), (by first | rfl | (simp; done) | (simp [*]; done)), (by first | rfl | (simp; done) | (simp [*]; done)), H', ⟨Nat.le_refl _⟩, ⟨by (with_reducible repeat (first | apply Kd.S_alloc | apply Kd.S_drewN | apply Kd.S_drew)); exact Kd.S_mono HO676.out (fun _ hk => trivial)⟩, ⟨bl_ HB.out⟩⟩
     case round =>
      clear H'
      try clear c1
      try clear c2
      try clear p2
      try clear c6
      try clear c6b0
      try clear c6b1
      try clear c8
      try clear c8b0
      try clear c8b1
      try clear c9
      try clear c9b0
      try clear c9b1
      try clear c9b2
      try clear c14
      try clear c17
      try clear c22
      try clear c23
      try clear c23b0
      try clear c23b1
      try clear c27
      try clear c28
      try clear p2
      obtain ⟨x9_2, x10_2, rfl, rfl, HA, HK2, HO_7, HB⟩ := hrel
      cases gk with
      | zero => exact absurd HA.out (by simp [swashplatelaw01_SpansLost.l0])
      | succ k2 =>
       have H := HA.out
       clear HA
       simp only [swashplatelaw01_SpansLost.l0] at H
       by_cases c29 : x10_2 < (t673.length : Int)
       ·
        rw [if_pos c29] at H
        have c29b0 : decide (x10_2 < (t673.length : Int)) = true := decide_eq_true c29
        clear c29
        have HC30 := Aside0.mk H
        clear H
        obtain ⟨Ao31, co31, eo31⟩ := Kd.S_slice HO_7.out
        subst eo31
        go_upto_region 10 with (fail)
        go_cut [65] (fun v65 wc => ∃ (kq : Nat) (x65_29 : Bool), v65 = .bool x65_29 ∧ Aside0 (swashplatelaw01_SpansLost.j2 kq l0 l1 l2 t673 x9_2 x10_2 x65_29 = some r) ∧ Aside0 (kq ≤ k2) ∧ Aside0 (Kd.S (Kd.slice 27 k27) 38 wc w.heap.size (fun _ => True) (.slice Ao31 t673.length co31) t673) ∧ Aside0 (Below w.heap.size w wc))
        case first =>
         have H := HC30.out
         clear HC30
         by_cases c32 : 0 ≤ x10_2
         ·
          rw [if_pos c32] at H
          have c32b0 : decide (0 ≤ x10_2) = true := decide_eq_true c32
          clear c32
          (first | rw [c32b0] | (simp only [i64_w, i32_w]; rw [c32b0]) | skip)
          replace H := Option.bind_eq_some_iff.mp H
          obtain ⟨t678, A330, H⟩ := H
          replace H : (if t678 = 0 then (swashplatelaw01_SpansLost.j2 k2 l0 l1 l2 t673 x9_2 x10_2 (((rd_L2 t673 x10_2).length : Int) != (l0.length : Int))) else (swashplatelaw01_SpansLost.j2 k2 l0 l1 l2 t673 x9_2 x10_2 true)) = some r := H
          have A33 := Aside0.mk A330
          clear A330
          by_cases c34 : t678 = 0
          ·
           rw [if_pos c34] at H
           have c34b0 : (t678 == 0) = true := beq_iff_eq.mpr c34
           have c34b1 : (t678 != 0) = false := bne_eq_false_iff_eq.mpr c34
           clear c34
           have H' := Aside0.mk H
           clear H
           have p677 : 0 ≤ (x10_2 : Int) := of_decide_eq_true (by first | (with_reducible assumption) | assumption)
           have q677 : x10_2 < (t673.length : Int) := of_decide_eq_true (by first | (with_reducible assumption) | assumption)
           obtain ⟨ad677, A677_0, c677_0, e677, hx677_0, hl677_0, hi677_0⟩ := at_L2 (Kd.S_reads' HO_7.out).2.2 x10_2 p677 q677
           cases e677
           obtain ⟨ce677, hce677, hMe677, hcc677⟩ := Kd.S_get HO_7.out [] x10_2 p677 (by first | exact q677 | exact of_decide_eq_true (by first | (with_reducible assumption) | assumption) | (have e_ := (Kd.S_reads' HO_7.out).1; omega))
           obtain ⟨ve677_0, rfl, ge677_0⟩ := hMe677
           have hv677_0 := hcc677 0 _ rfl
           rw [Nat.add_zero, show ((Kd.slice 27 k27)).sz = 1 from rfl, Nat.mul_one] at hv677_0
           replace hv677_0 := Option.some.inj (hv677_0.symm.trans hx677_0)
           rw [hv677_0] at ge677_0
           have HL677_0 := Aside0.mk (show Kd.R k27 27 _ _ _ _ (rd_L2 t673 x10_2) from ge677_0)
           clear hv677_0 ge677_0 hcc677 hce677
           have HR677_0 := Aside0.mk hi677_0
           have HC677_0 := Aside0.mk hl677_0
           clear hi677_0 hl677_0
           replace p677 := eq_true p677
           replace q677 := eq_true q677
           go_wp2_with (first | ((with_reducible refine gate_callee (f := 28) rfl ?_); refine goesL_ (some 54) rfl rfl Try.func28 (by kernel_rfl) rfl #[.slice A677_0 (rd_L2 t673 x10_2).length c677_0] rfl (by (try simp only [List.map_toArray, List.map_cons, List.map_nil]); first | done | rfl | (simp only [List.length_drop, List.length_take]; rfl)) ?_; (with_reducible refine (swashplateref01_Check.calls k2 _ _ (rd_L2 t673 x10_2) t678 _ ?side1 ?side2 A33.out).mono ?_); (case side1 => exact cr_ (by repeat (first | (with_reducible exact HR677_0.out) | (with_reducible refine Kd.C_alloc ?_ _) | (with_reducible refine Kd.C_drewN ?_ _) | (with_reducible refine Kd.C_drew ?_) | exact HR677_0.out))); (case side2 => exact HC677_0.out); rintro e w35 ⟨rfl, hb⟩; refine ⟨_, rfl, ?_⟩; have n0_ := Aside0.mk (Kd.S_below (by (with_reducible repeat (first | apply Kd.S_alloc | apply Kd.S_drewN | apply Kd.S_drew)); exact HO_7.out) hb); have n1_ := Aside0.mk (Kd.R_below (by (with_reducible repeat (first | apply Kd.R_alloc | apply Kd.R_drewN | apply Kd.R_drew)); exact HL677_0.out) hb); have n2_ := Aside0.mk (Kd.C_below (by repeat (first | (with_reducible exact HR677_0.out) | (with_reducible refine Kd.C_alloc ?_ _) | (with_reducible refine Kd.C_drewN ?_ _) | (with_reducible refine Kd.C_drew ?_) | exact HR677_0.out)) hb); have n3_ := Aside0.mk (below_step (bl_ HB.out) hb); clear HO_7 HL677_0 HR677_0 HB; have HO_7 := n0_; have HL677_0 := n1_; have HR677_0 := n2_; have HB := n3_; clear n0_ n1_ n2_ n3_; (try clear hb); (try clear hb2); (try clear hk); (try clear hi); have p679 : 0 ≤ (x10_2 : Int) := of_decide_eq_true (by first | (with_reducible assumption) | assumption); have q679 : x10_2 < (t673.length : Int) := of_decide_eq_true (by first | (with_reducible assumption) | assumption); obtain ⟨ad679, A679_0, c679_0, e679, hx679_0, hl679_0, hi679_0⟩ := at_L2 (Kd.S_reads' HO_7.out).2.2 x10_2 p679 q679; obtain rfl : ad677 = ad679 := (by injection e679); obtain ⟨ce679, hce679, hMe679, hcc679⟩ := Kd.S_get HO_7.out [] x10_2 p679 (by first | exact q679 | exact of_decide_eq_true (by first | (with_reducible assumption) | assumption) | (have e_ := (Kd.S_reads' HO_7.out).1; omega)); obtain ⟨ve679_0, rfl, ge679_0⟩ := hMe679; have hv679_0 := hcc679 0 _ rfl; rw [Nat.add_zero, show ((Kd.slice 27 k27)).sz = 1 from rfl, Nat.mul_one] at hv679_0; replace hv679_0 := Option.some.inj (hv679_0.symm.trans hx679_0); rw [hv679_0] at ge679_0; have HL679_0 := Aside0.mk (show Kd.R k27 27 _ _ _ _ (rd_L2 t673 x10_2) from ge679_0); clear hv679_0 ge679_0 hcc679 hce679; have HR679_0 := Aside0.mk hi679_0; have HC679_0 := Aside0.mk hl679_0; clear hi679_0 hl679_0; replace p679 := eq_true p679; replace q679 := eq_true q679))
           go_meet
           case rel => exact ⟨_, ((((rd_L2 t673 x10_2).length : Int) != (l0.length : Int))), (by first | rfl | (simp; done) | (simp [*]; done)), H', ⟨by have := HJ3.out; have := HK2.out; first | omega | exact Nat.le_refl _⟩, ⟨by (with_reducible repeat (first | apply Kd.S_alloc | apply Kd.S_drewN | apply Kd.S_drew)); exact HO_7.out⟩, ⟨bl_ HB.out⟩⟩
          ·
           rw [if_neg c34] at H
           have c34b0 : (t678 == 0) = false := beq_eq_false_iff_ne.mpr c34
           have c34b1 : (t678 != 0) = true := bne_iff_ne.mpr c34
           have H' := Aside0.mk H
           clear H
           have p677 : 0 ≤ (x10_2 : Int) := of_decide_eq_true (by first | (with_reducible assumption) | assumption)
           have q677 : x10_2 < (t673.length : Int) := of_decide_eq_true (by first | (with_reducible assumption) | assumption)
           obtain ⟨ad677, A677_0, c677_0, e677, hx677_0, hl677_0, hi677_0⟩ := at_L2 (Kd.S_reads' HO_7.out).2.2 x10_2 p677 q677
           cases e677
           obtain ⟨ce677, hce677, hMe677, hcc677⟩ := Kd.S_get HO_7.out [] x10_2 p677 (by first | exact q677 | exact of_decide_eq_true (by first | (with_reducible assumption) | assumption) | (have e_ := (Kd.S_reads' HO_7.out).1; omega))
           obtain ⟨ve677_0, rfl, ge677_0⟩ := hMe677
           have hv677_0 := hcc677 0 _ rfl
           rw [Nat.add_zero, show ((Kd.slice 27 k27)).sz = 1 from rfl, Nat.mul_one] at hv677_0
           replace hv677_0 := Option.some.inj (hv677_0.symm.trans hx677_0)
           rw [hv677_0] at ge677_0
           have HL677_0 := Aside0.mk (show Kd.R k27 27 _ _ _ _ (rd_L2 t673 x10_2) from ge677_0)
           clear hv677_0 ge677_0 hcc677 hce677
           have HR677_0 := Aside0.mk hi677_0
           have HC677_0 := Aside0.mk hl677_0
           clear hi677_0 hl677_0
           replace p677 := eq_true p677
           replace q677 := eq_true q677
           go_wp2_with (first | ((with_reducible refine gate_callee (f := 28) rfl ?_); refine goesL_ (some 54) rfl rfl Try.func28 (by kernel_rfl) rfl #[.slice A677_0 (rd_L2 t673 x10_2).length c677_0] rfl (by (try simp only [List.map_toArray, List.map_cons, List.map_nil]); first | done | rfl | (simp only [List.length_drop, List.length_take]; rfl)) ?_; (with_reducible refine (swashplateref01_Check.calls k2 _ _ (rd_L2 t673 x10_2) t678 _ ?side1 ?side2 A33.out).mono ?_); (case side1 => exact cr_ (by repeat (first | (with_reducible exact HR677_0.out) | (with_reducible refine Kd.C_alloc ?_ _) | (with_reducible refine Kd.C_drewN ?_ _) | (with_reducible refine Kd.C_drew ?_) | exact HR677_0.out))); (case side2 => exact HC677_0.out); rintro e w36 ⟨rfl, hb⟩; refine ⟨_, rfl, ?_⟩; have n0_ := Aside0.mk (Kd.S_below (by (with_reducible repeat (first | apply Kd.S_alloc | apply Kd.S_drewN | apply Kd.S_drew)); exact HO_7.out) hb); have n1_ := Aside0.mk (Kd.R_below (by (with_reducible repeat (first | apply Kd.R_alloc | apply Kd.R_drewN | apply Kd.R_drew)); exact HL677_0.out) hb); have n2_ := Aside0.mk (Kd.C_below (by repeat (first | (with_reducible exact HR677_0.out) | (with_reducible refine Kd.C_alloc ?_ _) | (with_reducible refine Kd.C_drewN ?_ _) | (with_reducible refine Kd.C_drew ?_) | exact HR677_0.out)) hb); have n3_ := Aside0.mk (below_step (bl_ HB.out) hb); clear HO_7 HL677_0 HR677_0 HB; have HO_7 := n0_; have HL677_0 := n1_; have HR677_0 := n2_; have HB := n3_; clear n0_ n1_ n2_ n3_; (try clear hb); (try clear hb2); (try clear hk); (try clear hi)))
           go_meet
           case rel => exact ⟨_, (true), (by first | rfl | (simp; done) | (simp [*]; done)), H', ⟨by have := HJ3.out; have := HK2.out; first | omega | exact Nat.le_refl _⟩, ⟨by (with_reducible repeat (first | apply Kd.S_alloc | apply Kd.S_drewN | apply Kd.S_drew)); exact HO_7.out⟩, ⟨bl_ HB.out⟩⟩
         ·
          rw [if_neg c32] at H
          exact absurd H (by simp)
        case rest =>
         clear HC30
         try clear c1
         try clear c2
         try clear p2
         try clear c3
         try clear c6
         try clear c6b0
         try clear c6b1
         try clear p6
         try clear q6
         try clear hx6
         try clear c8
         try clear c8b0
         try clear c8b1
         try clear c9
         try clear c9b0
         try clear c9b1
         try clear c9b2
         try clear c14
         try clear c17
         try clear c22
         try clear c23
         try clear c23b0
         try clear c23b1
         try clear c27
         try clear c28
         try clear c29
         try clear c29b0
         try clear c32
         try clear c32b0
         try clear c34
         try clear c34b0
         try clear c34b1
         try clear hx677_0
         try clear hx679_0
         try clear p2
         try clear p677
         try clear p679
         try clear q677
         try clear q679
         obtain ⟨kq, x65_29, rfl, HA, HJ29, HO_7, HB⟩ := hcut
         cases kq with
         | zero => exact absurd HA.out (by simp [swashplatelaw01_SpansLost.j2])
         | succ kj29 =>
          have H := HA.out
          clear HA
          simp only [swashplatelaw01_SpansLost.j2] at H
          by_cases c37 : x65_29 = true
          ·
           subst c37
           have H1 : (some false) = some r := by rw [if_pos rfl] at H; exact H
           clear H
           have H := H1
           clear H1
           exact absurd ((Option.some.inj H).trans hrT.out) (by decide)
          ·
           replace c37 := Bool.eq_false_iff.mpr c37
           subst c37
           have H1 : (if 0 ≤ x10_2 then (if x10_2 < (t673.length : Int) then ((swashplateref01_In.f kj29 l2 (rd_L2 t673 x10_2)).bind fun t681 => (if t681 = true then (swashplatelaw01_SpansLost.l0 kj29 l0 l1 l2 t673 (wrap64 (x9_2 + 1)) (wrap64 (x10_2 + 1))) else (swashplatelaw01_SpansLost.l0 kj29 l0 l1 l2 t673 x9_2 (wrap64 (x10_2 + 1))))) else (none)) else (none)) = some r := by rw [if_neg (show ¬ (false = true) by decide)] at H; exact H
           clear H
           have H := H1
           clear H1
           by_cases c38 : 0 ≤ x10_2
           ·
            rw [if_pos c38] at H
            have c38b0 : decide (0 ≤ x10_2) = true := decide_eq_true c38
            clear c38
            by_cases c39 : x10_2 < (t673.length : Int)
            ·
             rw [if_pos c39] at H
             have c39b0 : decide (x10_2 < (t673.length : Int)) = true := decide_eq_true c39
             clear c39
             replace H := Option.bind_eq_some_iff.mp H
             obtain ⟨t681, A400, H⟩ := H
             replace H : (if t681 = true then (swashplatelaw01_SpansLost.l0 kj29 l0 l1 l2 t673 (wrap64 (x9_2 + 1)) (wrap64 (x10_2 + 1))) else (swashplatelaw01_SpansLost.l0 kj29 l0 l1 l2 t673 x9_2 (wrap64 (x10_2 + 1)))) = some r := H
             have A40 := Aside0.mk A400
             clear A400
             by_cases c41 : t681 = true
             ·
              subst c41
              have H1 : (swashplatelaw01_SpansLost.l0 kj29 l0 l1 l2 t673 (wrap64 (x9_2 + 1)) (wrap64 (x10_2 + 1))) = some r := by rw [if_pos rfl] at H; exact H
              clear H
              have H := H1
              clear H1
              have H' := Aside0.mk H
              clear H
              have p680 : 0 ≤ (x10_2 : Int) := of_decide_eq_true (by first | (with_reducible assumption) | assumption)
              have q680 : x10_2 < (t673.length : Int) := of_decide_eq_true (by first | (with_reducible assumption) | assumption)
              obtain ⟨ad680, A680_0, c680_0, e680, hx680_0, hl680_0, hi680_0⟩ := at_L2 (Kd.S_reads' HO_7.out).2.2 x10_2 p680 q680
              cases e680
              obtain ⟨ce680, hce680, hMe680, hcc680⟩ := Kd.S_get HO_7.out [] x10_2 p680 (by first | exact q680 | exact of_decide_eq_true (by first | (with_reducible assumption) | assumption) | (have e_ := (Kd.S_reads' HO_7.out).1; omega))
              obtain ⟨ve680_0, rfl, ge680_0⟩ := hMe680
              have hv680_0 := hcc680 0 _ rfl
              rw [Nat.add_zero, show ((Kd.slice 27 k27)).sz = 1 from rfl, Nat.mul_one] at hv680_0
              replace hv680_0 := Option.some.inj (hv680_0.symm.trans hx680_0)
              rw [hv680_0] at ge680_0
              have HL680_0 := Aside0.mk (show Kd.R k27 27 _ _ _ _ (rd_L2 t673 x10_2) from ge680_0)
              clear hv680_0 ge680_0 hcc680 hce680
              have HR680_0 := Aside0.mk hi680_0
              have HC680_0 := Aside0.mk hl680_0
              clear hi680_0 hl680_0
              replace p680 := eq_true p680
              replace q680 := eq_true q680
              go_wp2_with (first | ((with_reducible refine gate_callee (f := 63) rfl ?_); refine goesL_ (some 71) rfl rfl Try.func63 (by kernel_rfl) rfl #[.slice A2 l2.length c2, .slice A680_0 (rd_L2 t673 x10_2).length c680_0] rfl (by (try simp only [List.map_toArray, List.map_cons, List.map_nil]); first | done | rfl | (simp only [List.length_drop, List.length_take]; rfl)) ?_; (with_reducible refine (swashplateref01_In.calls kj29 _ _ l2 _ _ (rd_L2 t673 x10_2) true _ ?side1 ?side2 ?side3 ?side4 A40.out).mono ?_); (case side1 => exact cr_ (Kd.C_below HR2.out HB.out)); (case side2 => exact HC2.out); (case side3 => exact cr_ (by repeat (first | (with_reducible exact HR680_0.out) | (with_reducible refine Kd.C_alloc ?_ _) | (with_reducible refine Kd.C_drewN ?_ _) | (with_reducible refine Kd.C_drew ?_) | exact HR680_0.out))); (case side4 => exact HC680_0.out); rintro e w' ⟨rfl, ⟨nd, rfl⟩⟩; refine ⟨_, rfl, ?_⟩))
              go_roundg kj29
              case measure => have := HJ3.out; have := HK2.out; have := HJ29.out; omega
              case rel => exact ⟨(wrap64 (x9_2 + 1)), (wrap64 (x10_2 + 1)), (by first | rfl | (simp; done) | (simp [*]; done)), (by first | rfl | (simp; done) | (simp [*]; done)), H', ⟨by have := HJ3.out; have := HK2.out; have := HJ29.out; omega⟩, ⟨by (with_reducible repeat (first | apply Kd.S_alloc | apply Kd.S_drewN | apply Kd.S_drew)); exact HO_7.out⟩, ⟨bl_ HB.out⟩⟩
             ·
              replace c41 := Bool.eq_false_iff.mpr c41
              subst c41
              have H1 : (swashplatelaw01_SpansLost.l0 kj29 l0 l1 l2 t673 x9_2 (wrap64 (x10_2 + 1))) = some r := by rw [if_neg (show ¬ (false = true) by decide)] at H; exact H
              clear H
              have H := H1
              clear H1
              have H' := Aside0.mk H
              clear H
              have p680 : 0 ≤ (x10_2 : Int) := of_decide_eq_true (by first | (with_reducible assumption) | assumption)
              have q680 : x10_2 < (t673.length : Int) := of_decide_eq_true (by first | (with_reducible assumption) | assumption)
              obtain ⟨ad680, A680_0, c680_0, e680, hx680_0, hl680_0, hi680_0⟩ := at_L2 (Kd.S_reads' HO_7.out).2.2 x10_2 p680 q680
              cases e680
              obtain ⟨ce680, hce680, hMe680, hcc680⟩ := Kd.S_get HO_7.out [] x10_2 p680 (by first | exact q680 | exact of_decide_eq_true (by first | (with_reducible assumption) | assumption) | (have e_ := (Kd.S_reads' HO_7.out).1; omega))
              obtain ⟨ve680_0, rfl, ge680_0⟩ := hMe680
              have hv680_0 := hcc680 0 _ rfl
              rw [Nat.add_zero, show ((Kd.slice 27 k27)).sz = 1 from rfl, Nat.mul_one] at hv680_0
              replace hv680_0 := Option.some.inj (hv680_0.symm.trans hx680_0)
              rw [hv680_0] at ge680_0
              have HL680_0 := Aside0.mk (show Kd.R k27 27 _ _ _ _ (rd_L2 t673 x10_2) from ge680_0)
              clear hv680_0 ge680_0 hcc680 hce680
              have HR680_0 := Aside0.mk hi680_0
              have HC680_0 := Aside0.mk hl680_0
              clear hi680_0 hl680_0
              replace p680 := eq_true p680
              replace q680 := eq_true q680
              go_wp2_with (first | ((with_reducible refine gate_callee (f := 63) rfl ?_); refine goesL_ (some 71) rfl rfl Try.func63 (by kernel_rfl) rfl #[.slice A2 l2.length c2, .slice A680_0 (rd_L2 t673 x10_2).length c680_0] rfl (by (try simp only [List.map_toArray, List.map_cons, List.map_nil]); first | done | rfl | (simp only [List.length_drop, List.length_take]; rfl)) ?_; (with_reducible refine (swashplateref01_In.calls kj29 _ _ l2 _ _ (rd_L2 t673 x10_2) false _ ?side1 ?side2 ?side3 ?side4 A40.out).mono ?_); (case side1 => exact cr_ (Kd.C_below HR2.out HB.out)); (case side2 => exact HC2.out); (case side3 => exact cr_ (by repeat (first | (with_reducible exact HR680_0.out) | (with_reducible refine Kd.C_alloc ?_ _) | (with_reducible refine Kd.C_drewN ?_ _) | (with_reducible refine Kd.C_drew ?_) | exact HR680_0.out))); (case side4 => exact HC680_0.out); rintro e w' ⟨rfl, ⟨nd, rfl⟩⟩; refine ⟨_, rfl, ?_⟩))
              go_roundg kj29
              case measure => have := HJ3.out; have := HK2.out; have := HJ29.out; omega
              case rel => exact ⟨(x9_2), (wrap64 (x10_2 + 1)), (by first | rfl | (simp; done) | (simp [*]; done)), (by first | rfl | (simp; done) | (simp [*]; done)), H', ⟨by have := HJ3.out; have := HK2.out; have := HJ29.out; omega⟩, ⟨by (with_reducible repeat (first | apply Kd.S_alloc | apply Kd.S_drewN | apply Kd.S_drew)); exact HO_7.out⟩, ⟨bl_ HB.out⟩⟩
            ·
             rw [if_neg c39] at H
             exact absurd H (by simp)
           ·
            rw [if_neg c38] at H
            exact absurd H (by simp)
       ·
        rw [if_neg c29] at H
        have c29b0 : decide (x10_2 < (t673.length : Int)) = false := decide_eq_false c29
        clear c29
        have HC42 := Aside0.mk H
        clear H
        obtain ⟨Ao43, co43, eo43⟩ := Kd.S_slice HO_7.out
        subst eo43
        go_upto_region 14 with (fail)
        go_cut [82] (fun v82 wc => ∃ (kq : Nat) (x82_41 : Bool), v82 = .bool x82_41 ∧ Aside0 (swashplatelaw01_SpansLost.j3 kq x9_2 x82_41 = some r) ∧ Aside0 (kq ≤ k2) ∧ Aside0 (Below w.heap.size w wc))
        case first =>
         have H := HC42.out
         clear HC42
         replace H := Option.bind_eq_some_iff.mp H
         obtain ⟨t682, A440, H⟩ := H
         replace H : (if t682 = true then ((swashplateref01_In.f k2 l2 l1).bind fun t683 => (swashplatelaw01_SpansLost.j3 k2 x9_2 (!t683))) else (swashplatelaw01_SpansLost.j3 k2 x9_2 false)) = some r := H
         have A44 := Aside0.mk A440
         clear A440
         by_cases c45 : t682 = true
         ·
          subst c45
          have H1 : ((swashplateref01_In.f k2 l2 l1).bind fun t683 => (swashplatelaw01_SpansLost.j3 k2 x9_2 (!t683))) = some r := by rw [if_pos rfl] at H; exact H
          clear H
          have H := H1
          clear H1
          replace H := Option.bind_eq_some_iff.mp H
          obtain ⟨t683, A460, H⟩ := H
          replace H : (swashplatelaw01_SpansLost.j3 k2 x9_2 (!t683)) = some r := H
          have A46 := Aside0.mk A460
          clear A460
          have H' := Aside0.mk H
          clear H
          go_wp2_with (first | ((with_reducible refine gate_callee (f := 63) rfl ?_); refine goesL_ (some 76) rfl rfl Try.func63 (by kernel_rfl) rfl #[.slice A2 l2.length c2, .slice A0 l0.length c0] rfl (by (try simp only [List.map_toArray, List.map_cons, List.map_nil]); first | done | rfl | (simp only [List.length_drop, List.length_take]; rfl)) ?_; (with_reducible refine (swashplateref01_In.calls k2 _ _ l2 _ _ l0 true _ ?side1 ?side2 ?side3 ?side4 A44.out).mono ?_); (case side1 => exact cr_ (Kd.C_below HR2.out HB.out)); (case side2 => exact HC2.out); (case side3 => exact cr_ (Kd.C_below HR0.out HB.out)); (case side4 => exact HC0.out); rintro e w' ⟨rfl, ⟨nd, rfl⟩⟩; refine ⟨_, rfl, ?_⟩) | (go_at_call 63; (with_reducible refine (swashplateref01_In.calls k2 _ _ l2 _ _ l1 t683 _ ?side1 ?side2 ?side3 ?side4 A46.out).mono ?_); (case side1 => exact cr_ (Kd.C_below HR2.out (bl_ HB.out))); (case side2 => exact HC2.out); (case side3 => exact cr_ (Kd.C_below HR1.out (bl_ HB.out))); (case side4 => exact HC1.out); rintro e w' ⟨rfl, ⟨nd, rfl⟩⟩))
          go_meet
          case rel => exact ⟨_, (!t683), (by first | rfl | (simp; done) | (simp [*]; done)), H', ⟨by have := HJ3.out; have := HK2.out; first | omega | exact Nat.le_refl _⟩, ⟨bl_ HB.out⟩⟩
         ·
          replace c45 := Bool.eq_false_iff.mpr c45
          subst c45
          have H1 : (swashplatelaw01_SpansLost.j3 k2 x9_2 false) = some r := by rw [if_neg (show ¬ (false = true) by decide)] at H; exact H
          clear H
          have H := H1
          clear H1
          have H' := Aside0.mk H
          clear H
          go_wp2_with (first | ((with_reducible refine gate_callee (f := 63) rfl ?_); refine goesL_ (some 76) rfl rfl Try.func63 (by kernel_rfl) rfl #[.slice A2 l2.length c2, .slice A0 l0.length c0] rfl (by (try simp only [List.map_toArray, List.map_cons, List.map_nil]); first | done | rfl | (simp only [List.length_drop, List.length_take]; rfl)) ?_; (with_reducible refine (swashplateref01_In.calls k2 _ _ l2 _ _ l0 false _ ?side1 ?side2 ?side3 ?side4 A44.out).mono ?_); (case side1 => exact cr_ (Kd.C_below HR2.out HB.out)); (case side2 => exact HC2.out); (case side3 => exact cr_ (Kd.C_below HR0.out HB.out)); (case side4 => exact HC0.out); rintro e w' ⟨rfl, ⟨nd, rfl⟩⟩; refine ⟨_, rfl, ?_⟩))
          go_meet
          case rel => exact ⟨_, (false), (by first | rfl | (simp; done) | (simp [*]; done)), H', ⟨by have := HJ3.out; have := HK2.out; first | omega | exact Nat.le_refl _⟩, ⟨bl_ HB.out⟩⟩
        case rest =>
         clear HC42
         try clear c1
         try clear c2
         try clear p2
         try clear c3
         try clear c4
         try clear c6
         try clear c6b0
         try clear c6b1
         try clear p6
         try clear q6
         try clear hx6
         try clear c8
         try clear c8b0
         try clear c8b1
         try clear c9
         try clear c9b0
         try clear c9b1
         try clear c9b2
         try clear c14
         try clear c17
         try clear c22
         try clear c23
         try clear c23b0
         try clear c23b1
         try clear c27
         try clear c28
         try clear c29
         try clear c29b0
         try clear c32
         try clear c32b0
         try clear c34
         try clear c34b0
         try clear c34b1
         try clear c37
         try clear c38
         try clear c38b0
         try clear c39
         try clear c39b0
         try clear c41
         try clear c45
         try clear hx677_0
         try clear hx679_0
         try clear hx680_0
         try clear p2
         try clear p6
         try clear p677
         try clear p679
         try clear p680
         try clear q6
         try clear q677
         try clear q679
         try clear q680
         obtain ⟨kq, x82_41, rfl, HA, HJ41, HB⟩ := hcut
         cases kq with
         | zero => exact absurd HA.out (by simp [swashplatelaw01_SpansLost.j3])
         | succ kj41 =>
          have H := HA.out
          clear HA
          simp only [swashplatelaw01_SpansLost.j3] at H
          by_cases c47 : x82_41 = true
          ·
           subst c47
           have H1 : (if x9_2 = 1 then ((swashplatelaw01_works.f kj41).bind fun t684 => (some t684)) else (some false)) = some r := by rw [if_pos rfl] at H; exact H
           clear H
           have H := H1
           clear H1
           by_cases c48 : x9_2 = 1
           ·
            rw [if_pos c48] at H
            have c48b0 : (x9_2 == 1) = true := beq_iff_eq.mpr c48
            have c48b1 : (x9_2 != 1) = false := bne_eq_false_iff_eq.mpr c48
            clear c48
            replace H := Option.bind_eq_some_iff.mp H
            obtain ⟨t684, A490, H⟩ := H
            replace H : (some t684) = some r := H
            have A49 := Aside0.mk A490
            clear A490
            obtain rfl := Option.some.inj H
            go_wp2_with (first | (go_at_call 22; (with_reducible refine (swashplatelaw01_works.calls kj41  t684 _ A49.out).mono ?_); rintro e w50 ⟨rfl, hb⟩; have n0_ := Aside0.mk (below_step (bl_ HB.out) hb); clear HB; have HB := n0_; clear n0_; (try clear hb); (try clear hb2); (try clear hk); (try clear hi)))
            go_ret
            exact ⟨by first | rfl | (simp [errW_none, errW_some] <;> rfl) | (simp [*, errW_none, errW_some] <;> rfl), bl_ HB.out⟩
           ·
            rw [if_neg c48] at H
            have c48b0 : (x9_2 == 1) = false := beq_eq_false_iff_ne.mpr c48
            have c48b1 : (x9_2 != 1) = true := bne_iff_ne.mpr c48
            exact absurd ((Option.some.inj H).trans hrT.out) (by decide)
          ·
           replace c47 := Bool.eq_false_iff.mpr c47
           subst c47
           have H1 : (if x9_2 = 0 then ((swashplatelaw01_works.f kj41).bind fun t685 => (some t685)) else (some false)) = some r := by rw [if_neg (show ¬ (false = true) by decide)] at H; exact H
           clear H
           have H := H1
           clear H1
           by_cases c51 : x9_2 = 0
           ·
            rw [if_pos c51] at H
            have c51b0 : (x9_2 == 0) = true := beq_iff_eq.mpr c51
            have c51b1 : (x9_2 != 0) = false := bne_eq_false_iff_eq.mpr c51
            clear c51
            replace H := Option.bind_eq_some_iff.mp H
            obtain ⟨t685, A520, H⟩ := H
            replace H : (some t685) = some r := H
            have A52 := Aside0.mk A520
            clear A520
            obtain rfl := Option.some.inj H
            go_wp2_with (first | (go_at_call 22; (with_reducible refine (swashplatelaw01_works.calls kj41  t685 _ A52.out).mono ?_); rintro e w53 ⟨rfl, hb⟩; have n0_ := Aside0.mk (below_step (bl_ HB.out) hb); clear HB; have HB := n0_; clear n0_; (try clear hb); (try clear hb2); (try clear hk); (try clear hi)))
            go_ret
            exact ⟨by first | rfl | (simp [errW_none, errW_some] <;> rfl) | (simp [*, errW_none, errW_some] <;> rfl), bl_ HB.out⟩
           ·
            rw [if_neg c51] at H
            have c51b0 : (x9_2 == 0) = false := beq_eq_false_iff_ne.mpr c51
            have c51b1 : (x9_2 != 0) = true := bne_iff_ne.mpr c51
            exact absurd ((Option.some.inj H).trans hrT.out) (by decide)
    ·
     rw [if_neg c23] at H
     have c23b0 : (t674 == 0) = false := beq_eq_false_iff_ne.mpr c23
     have c23b1 : (t674 != 0) = true := bne_iff_ne.mpr c23
     exact absurd ((Option.some.inj H).trans hrT.out) (by decide)
end Go.Proofs.Yteodlmgmmpkpoaa.PS
end
section
namespace Go.Proofs.Yteodlmgmmpkpoaa.PS
open Go.RowKit Go.Proofs.YteodlmgmmpkpoaaW.PrintWords Go.Proofs.YteodlmgmmpkpoaaW.PrintLast Go.Proofs.YteodlmgmmpkpoaaW.PrintMore
set_option linter.unusedVariables false
set_option linter.unusedSimpArgs false
theorem in_loop (p : List Int) (b : List S27) (hl : b.length ≤ 1000) (hp : p.length = b.length) : ∀ (k i : Nat), i ≤ b.length → b.length - i < k → swashplateref01_In.l0 k p b i = some (inT (p.drop i) (b.drop i))
  | 0, i, _, h => absurd h (Nat.not_lt_zero _)
  | k + 1, i, hi, hk => by
    simp only [swashplateref01_In.l0]
    by_cases hlt : i < b.length
    · rw [if_pos (by omega), if_pos (by omega), if_pos (by omega), rdT27_nat, rd_nat, from_total, Option.bind_some, drop_stepG z27 b i hlt, drop_stepG (0 : Int) p i (by omega)]
      simp only [inT]
      rw [show gI p i = p.getD i 0 from rfl]
      by_cases hc : (decide ((b.getD i z27).f0 ≤ p.getD i 0) && decide (p.getD i 0 ≤ (b.getD i z27).f1)) = true
      · rw [if_pos hc, step64 i (by omega), in_loop p b hl hp k (i + 1) (by omega) (by omega), hc, Bool.true_and]
      · rw [if_neg hc]; rw [Bool.not_eq_true] at hc; rw [hc, Bool.false_and]
    · rw [if_neg (by omega), List.drop_of_length_le (show b.length ≤ i by omega)]
      unfold inT
      split <;> simp_all
theorem in_total (p : List Int) (b : List S27) (hl : b.length ≤ 1000) (hp : p.length = b.length) (k : Nat) (hk : b.length < k) : swashplateref01_In.f k p b = some (inT p b) := by
  unfold swashplateref01_In.f
  have := in_loop p b hl hp k 0 (Nat.zero_le _) (by omega)
  rwa [List.drop_zero, List.drop_zero] at this
theorem lost_end (p : List Int) (a b : List S27) (n k : Nat) (hk : 200 ≤ k) (hn : n = if (inT p a && !inT p b) = true then 1 else 0) (c : Bool) (hc : c = (inT p a && !inT p b)) : swashplatelaw01_SpansLost.j3 k (n : Int) c = some true := by
  obtain ⟨k, rfl⟩ : ∃ m, k = m + 1 := ⟨k - 1, by omega⟩
  simp only [swashplatelaw01_SpansLost.j3]
  rw [hn, ← hc]
  cases c with
  | true => rw [if_pos rfl, if_pos rfl]; simp [works_at k (by omega)]
  | false => rw [if_neg Bool.false_ne_true, if_neg Bool.false_ne_true]; simp [works_at k (by omega)]
theorem lost_loop (a b : List S27) (p : List Int) (l : List (List S27)) (hla : a.length ≤ 3) (hlb : b.length = a.length) (hlp : p.length = a.length) (hl : l.length ≤ 1000) (hbx : ∀ x ∈ l, boxB x = true ∧ x.length = a.length) :
    ∀ (k i n : Nat), i ≤ l.length → 2 * (l.length - i) + 300 ≤ k → n + cnt p (l.drop i) = (if (inT p a && !inT p b) = true then 1 else 0) → swashplatelaw01_SpansLost.l0 k a b p l n i = some true
  | 0, i, n, _, h, _ => absurd h (by omega)
  | k + 1, i, n, hi, hk, hn => by
    simp only [swashplatelaw01_SpansLost.l0]
    by_cases hlt : i < l.length
    · have hx := hbx _ (getD_mem l [] i hlt)
      have hrd : rd_L2 l (i : Int) = l.getD i [] := by unfold rd_L2; rw [Int.toNat_natCast]
      rw [drop_stepG [] l i hlt, show l.getD i [] :: l.drop (i + 1) = [l.getD i []] ++ l.drop (i + 1) from rfl, cnt_app, cnt_one] at hn
      obtain ⟨k, rfl⟩ : ∃ m, k = m + 1 := ⟨k - 1, by omega⟩
      rw [if_pos (by omega), if_pos (by omega), hrd, rcheck_total _ _ (by omega), Option.bind_some, hx.1, if_pos rfl, if_pos rfl, show (((l.getD i []).length : Int) != (a.length : Int)) = false by rw [hx.2]; simp]
      simp only [swashplatelaw01_SpansLost.j2]
      rw [if_neg (by simp), if_pos (by omega), if_pos (by omega), hrd, in_total p _ (by omega) (by omega) k (by omega), Option.bind_some]
      by_cases hc : inT p (l.getD i []) = true
      · rw [if_pos hc, step64 i (by omega), step64 n (by rw [if_pos hc] at hn; split at hn <;> omega)]
        rw [if_pos hc] at hn
        exact lost_loop a b p l hla hlb hlp hl hbx k (i + 1) (n + 1) (by omega) (by omega) (by omega)
      · rw [if_neg hc, step64 i (by omega)]
        rw [if_neg hc] at hn
        exact lost_loop a b p l hla hlb hlp hl hbx k (i + 1) n (by omega) (by omega) (by omega)
    · rw [List.drop_of_length_le (by omega), cnt_nil, Nat.add_zero] at hn
      rw [if_neg (by omega), in_total p a (by omega) hlp k (by omega), Option.bind_some]
      by_cases hc : inT p a = true
      · rw [if_pos hc, in_total p b (by omega) (by omega) k (by omega), Option.bind_some]
        exact lost_end p a b n k (by omega) hn _ (by rw [hc, Bool.true_and])
      · rw [if_neg hc]
        exact lost_end p a b n k (by omega) hn _ (by rw [Bool.not_eq_true] at hc; rw [hc, Bool.false_and])
theorem lost_true (a b : List S27) (p : List Int) : swashplatelaw01_SpansLost.f 1000 a b p = some true := by
  have hj : swashplatelaw01_SpansLost.j0 1000 a b p true = some true := by
    simp only [swashplatelaw01_SpansLost.j0]
    rw [if_pos trivial, works_at _ (by omega)]; rfl
  unfold swashplatelaw01_SpansLost.f
  rw [rcheck_total a _ (by omega), Option.bind_some]
  rcases Bool.eq_false_or_eq_true (boxB a) with ha | ha
  · rw [ha, if_pos rfl, if_pos rfl, rcheck_total b _ (by omega), Option.bind_some]
    rcases Bool.eq_false_or_eq_true (boxB b) with hb | hb
    · rw [hb, if_pos rfl, if_pos rfl]
      have h3 := boxB_size ha
      have h4 := boxB_size hb
      by_cases hl : a.length = b.length
      · rw [if_pos (by omega)]
        by_cases hp : p.length = a.length
        · rw [show ((p.length : Int) != (a.length : Int)) = false by simp [hp]]
          simp only [swashplatelaw01_SpansLost.j0]
          rw [if_neg (by simp), box_total a (by omega), Option.bind_some, box_total b (by omega), Option.bind_some, show spans_Minus.f a b = some (minR a b) from rfl, Option.bind_some]
          unfold minR
          rw [ha, hb, Bool.true_and, if_pos rfl, if_pos hl, if_pos rfl]
          have hm := cutT_max a b []
          have hc := cut_cnt a b p [] [] hl hp rfl (boxB_ok ha) (boxB_ok hb)
          rw [List.nil_append, show inT [] [] = true by simp [inT], Bool.true_and] at hc
          refine lost_loop a b p (cutT [] a b) (by omega) (by omega) hp (by omega) (fun x hx => ?_) 999 0 0 (Nat.zero_le _) (by omega) (by rw [List.drop_zero, Nat.zero_add]; exact hc)
          have hd := cutT_dim a b [] x hx
          have ho := cutT_ok a b [] x rfl (boxB_ok ha) (boxB_ok hb) hx
          rw [List.length_nil, Nat.zero_add] at hd
          exact ⟨boxB_mk ho (by omega) (by omega), hd⟩
        · rw [show ((p.length : Int) != (a.length : Int)) = true by simp; omega, hj]
      · rw [if_neg (by omega), hj]
    · rw [hb, if_neg (by simp), hj]
  · rw [ha, if_neg (by simp), hj]
end Go.Proofs.Yteodlmgmmpkpoaa.PS
end
section
namespace Go.Proofs.Yteodlmgmmpkpoaa.PS
open Go.RowKit Go.Deep Go.ChangeShapes Go.WideShapes Go.ChangeAt Go.Proofs.YteodlmgmmpkpoaaW.PrintWords
set_option linter.unusedVariables false
set_option maxRecDepth 100000 in
theorem liftedLost (os : Os) (started : os.Started) (H : Type) (enc : TypeId × Value → H) :
    ReturnsInHanded {} Try.checked os 14 .any (Rows.spansLostSpec.pre6 enc Try.prog Try.f14 Rows.spansLostRow.domain false) (Rows.spansLostSpec.post enc Try.prog Try.f14 false true false false) := by
  refine returnsInHanded_of_change (C := Try.checked) ownNone started (by kernel_rfl) Try.func14
    (ChangeSpec.witness6 (enc := enc) (C := Try.checked) false ⟨#[], #[.slice none 0 0, .slice none 0 0, .slice none 0 0], []⟩ 8 (by kernel_rfl) (by kernel_rfl) (by kernel_rfl) (by kernel_rfl)) ?_
  intro W base args ds gs before hval0 hW hcnd _
  have hval : ∀ (j : Nat) t v, Try.f14.params[j]? = some t → args[j]? = some v → Value.okWide Try.prog W .any base t v := hval0
  have hW' := hW
  obtain ⟨p, q, hA0, hV, rfl, hfz, hnd⟩ := hW
  have hA : DataW.TrodAll enc Try.prog W 0 (fun _ => true) true Try.f14.params.toList args.toList ds p := hA0
  rw [Try.params14] at hA hval
  obtain ⟨v0, vs0, d0, ds0, p0, q0, hargs, rfl, rfl, h0, r0⟩ := trodAll_cons hA
  obtain ⟨v1, vs1, d1, ds1, p1, q1, rfl, rfl, rfl, h1, r1⟩ := trodAll_cons r0
  obtain ⟨v2, vs2, d2, ds2, p2, q2, rfl, rfl, rfl, h2, r2⟩ := trodAll_cons r1
  obtain ⟨rfl, rfl, rfl⟩ := trodAll_nil r2
  obtain rfl : args = #[v0, v1, v2] := by cases args; simp_all
  obtain ⟨rfl, rfl⟩ := trodVars_none hV
  have k0 := h0
  have lt0 : ∀ x ∈ p0, x.block < W.heap.size := by obtain ⟨m, hm⟩ := k0; exact DataW.trod_lt m _ _ _ hm
  have k1 := h1
  have lt1 : ∀ x ∈ p1, x.block < W.heap.size := by obtain ⟨m, hm⟩ := k1; exact DataW.trod_lt m _ _ _ hm
  have k2 := h2
  have lt2 : ∀ x ∈ p2, x.block < W.heap.size := by obtain ⟨m, hm⟩ := k2; exact DataW.trod_lt m _ _ _ hm
  obtain ⟨A0, c0, b0, rfl, o01, o02, _, _⟩ := arg38 (hval 0 38 v0 rfl rfl) h0
  obtain ⟨A1, c1, b1, rfl, o11, o12, _, _⟩ := arg38 (hval 1 38 v1 rfl rfl) h1
  obtain ⟨A2, c2, b2, rfl, o21, o22, _, _⟩ := arg22 (hval 2 22 v2 rfl rfl) h2
  clear hA0 hval0
  refine (swashplatelaw01_SpansLost.calls 1000 A0 c0 b0 A1 c1 b1 A2 c2 b2 true W o02 o01 o12 o11 o22 o21 (lost_true b0 b1 b2) ⟨rfl⟩).mono fun e W' ⟨he, bel⟩ => ?_
  subst he
  exact ⟨_, rfl, _, _, _, [], _, [], hW', trodAll_mk1 (shut_bool Try.underlying4 _), (trodAll_cons_mk (Below.trod laidOut (by kernel_rfl) (of_decide_eq_true (by kernel_rfl)) k0 bel lt0) (trodAll_cons_mk (Below.trod laidOut (by kernel_rfl) (of_decide_eq_true (by kernel_rfl)) k1 bel lt1) (trodAll_cons_mk (Below.trod laidOut (by kernel_rfl) (of_decide_eq_true (by kernel_rfl)) k2 bel lt2) trodAll_mk0))), rfl, bel.frame _, fun h => by cases h⟩
theorem factsLost : joinedFacts Try.prog 14 Try.f14 Rows.spansLostSpec Rows.spansLostRow = true := by
  have fk : (Rows.spansLostRow.plainKeys == Try.prog.plainKeys) = true := factKeys
  have fl : (Rows.spansLostRow.lifted == Try.prog.liftsFinal) = true := factLifted
  have fm : (Try.prog.make == some Rows.spansLostRow.make) = true := factMake
  unfold joinedFacts
  repeat' (with_reducible refine Bool.and_eq_true_iff.2 ⟨?_, ?_⟩)
  all_goals first | (with_reducible exact fk) | (with_reducible exact factHeard) | (with_reducible exact factEnter) | (with_reducible exact fl) | (with_reducible exact fm) | kernel_rfl
theorem overLost : Rows.spansLostRow.holds Try.pinned (OpenSpec.ofChange Rows.spansLostSpec) :=
  OpenClaim.holds_of_wide 14 Try.f14 rfl rfl rfl rfl rfl rfl rfl ⟨rfl, rfl, rfl, rfl, rfl⟩ rfl rfl rfl rfl rfl (by kernel_rfl) Try.func14 factsLost
    (of_decide_eq_true (by kernel_rfl)) (by unfold Func.isWrapper; first | (rw [if_pos (by decide +kernel)]; kernel_rfl) | (rw [if_neg (by decide +kernel)]; exact ⟨rfl, rfl⟩))
    (fun os started H enc _ => liftedLost os started H enc)
theorem lostProved : Rows.SpansLostSaid := overLost
#print axioms lostProved
end Go.Proofs.Yteodlmgmmpkpoaa.PS
end
