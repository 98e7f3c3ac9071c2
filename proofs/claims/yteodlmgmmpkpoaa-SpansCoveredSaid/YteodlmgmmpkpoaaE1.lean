-- Printed by a program of this session out of the translation (hybrid print) and out of hand proofs. Not trusted: Lean checks it.
import Derived.Below
import Derived.Deep.Draws
import Derived.Deep.AppendLies
import Derived.Maps.AppendAt
import Derived.OwnWalk
import Derived.Laws.BytesArg
import Derived.Laws.MakeOwn
import Derived.Laws.OwnMore
import Derived.Deep.OwnRows
import Derived.Tactics
import Derived.Lib.ConvBytes
import Derived.Laws.Slices
import Derived.WalkKit
import Derived.KernelRfl
import Derived.RowKit3
import Derived.Deep.LoopGhost
import Derived.Deep.QuietTactic
import Derived.BigQuiet
import Derived.WideLaws
import Derived.Deep.DeepCutAuto
import Derived.Deep.CutBlock
import Derived.Deep.RegionHeld3
import Derived.Laws.Rows
import Derived.Lib.AppendStr
import Derived.ArgAppend
import Derived.Laws.IdiomCopy
import Derived.RowKit
import Derived.Test.YteodlmgmmpkpoaaE0
section
namespace Go.Proofs.Yteodlmgmmpkpoaa.PS
set_option linter.unusedVariables false
def leftT (a : List S27) (l : List (List S27)) : List (List S27) := l.foldl restT [a]
def sameB (n : Nat) (l : List (List S27)) : Bool := l.all fun b => b.length == n
def listE (l : List (List S27)) : Int := if l.all boxB then (if sameB (l.headD []).length l then 0 else 1) else 10
def lowsT (b : List S27) : List Int := b.map fun s => s.f0
def befB : List Int → List Int → Bool
  | a :: av, b :: bv => if a = b then befB av bv else decide (a < b)
  | _, _ => false
def firstT : List (List Int) → List Int
  | [] => []
  | p :: l => l.foldl (fun m q => if befB q m then q else m) p
def sizeT (b : List S27) : Int := b.foldl (fun n s => n * (s.f1 - s.f0 + 1)) 1
def satT (l : List Int) (a : Int) : Int := l.foldl (fun n x => min (n + x) 1000000000000000000) a
def countT : List (List S27) → List (List S27) → Int → Int
  | _, [], n => n
  | pre, a :: l, n => countT (pre ++ [a]) l (satT ((leftT a pre).map sizeT) n)
end Go.Proofs.Yteodlmgmmpkpoaa.PS
end
section
namespace Go.Proofs.Yteodlmgmmpkpoaa.PS
open Go.RowKit Go.Proofs.YteodlmgmmpkpoaaW.PrintWords Go.Proofs.YteodlmgmmpkpoaaW.PrintLast Go.Proofs.YteodlmgmmpkpoaaW.PrintMore
attribute [local go_sem] max2_int min2_int max_two min_two max_three min_three max_four min_four   -- for this text's walks alone
set_option linter.unusedVariables false
set_option linter.unusedSimpArgs false
set_option maxHeartbeats 8000000 in
set_option maxRecDepth 100000 in
theorem swashplateref01_From.calls (a0 : Int) (a1 : Int) (a2 : Int) (r : Bool) (w : World) (h : swashplateref01_From.f a0 a1 a2 = some r) :
  Calls Try.prog 37 #[.int .i64 a0, .int .i64 a1, .int .i64 a2] w fun e w' => e = .returned (.bool r) ∧ Drawn0 w w' := by
 have H : (if a0 ≥ a1 then (some (decide (a0 ≤ a2))) else (some false)) = some r := h
 clear h
 by_cases c4 : a0 ≥ a1
 ·
  rw [if_pos c4] at H
  have c4b0 : decide (a1 ≤ a0) = true := decide_eq_true c4
  clear c4
  obtain rfl := Option.some.inj H
  go_enter Try.func37, Try.ntmps37
  go_wp2
  go_ret
  exact ⟨by first | rfl | (simp; done) | (simp [*]; done), by repeat (first | exact Drawn0.refl _ | apply Drawn0.step)⟩
 ·
  rw [if_neg c4] at H
  have c4b0 : decide (a1 ≤ a0) = false := decide_eq_false c4
  clear c4
  obtain rfl := Option.some.inj H
  go_enter Try.func37, Try.ntmps37
  go_wp2
  go_ret
  exact ⟨by first | rfl | (simp; done) | (simp [*]; done), by repeat (first | exact Drawn0.refl _ | apply Drawn0.step)⟩
end Go.Proofs.Yteodlmgmmpkpoaa.PS
end
section
namespace Go.Proofs.Yteodlmgmmpkpoaa.PS
open Go.RowKit Go.Proofs.YteodlmgmmpkpoaaW.PrintWords Go.Proofs.YteodlmgmmpkpoaaW.PrintLast Go.Proofs.YteodlmgmmpkpoaaW.PrintMore
attribute [local go_sem] max2_int min2_int max_two min_two max_three min_three max_four min_four   -- for this text's walks alone
set_option linter.unusedVariables false
set_option linter.unusedSimpArgs false
set_option maxHeartbeats 8000000 in
set_option maxRecDepth 100000 in
theorem swashplateref01_Valid.calls (a0_0 : Int) (a0_1 : Int) (r : Bool) (w : World) (h : swashplateref01_Valid.f a0_0 a0_1 = some r) :
  Calls Try.prog 40 #[.agg #[.int .i64 a0_0, .int .i64 a0_1]] w fun e w' => e = .returned (.bool r) ∧ Below w.heap.size w w' := by
 have hu27 := Try.underlying27
 have HB := Aside0.mk (Below.refl w.heap.size w)
 have H : ((swashplateref01_From.f a0_0 (-1000000) 1000000).bind fun t330 => (if t330 = true then ((swashplateref01_From.f a0_1 a0_0 1000000).bind fun t331 => (some t331)) else (some false))) = some r := h
 clear h
 replace H := Option.bind_eq_some_iff.mp H
 obtain ⟨t330, A20, H⟩ := H
 replace H : (if t330 = true then ((swashplateref01_From.f a0_1 a0_0 1000000).bind fun t331 => (some t331)) else (some false)) = some r := H
 have A2 := Aside0.mk A20
 clear A20
 by_cases c3 : t330 = true
 ·
  subst c3
  have H1 : ((swashplateref01_From.f a0_1 a0_0 1000000).bind fun t331 => (some t331)) = some r := by rw [if_pos rfl] at H; exact H
  clear H
  have H := H1
  clear H1
  replace H := Option.bind_eq_some_iff.mp H
  obtain ⟨t331, A40, H⟩ := H
  replace H : (some t331) = some r := H
  have A4 := Aside0.mk A40
  clear A40
  obtain rfl := Option.some.inj H
  go_enter Try.func40, Try.ntmps40
  go_wp2_with (first | ((with_reducible refine gate_dst (N := 1) rfl ?_); refine box_event ?hg (N := 1) ?hd (cs := #[.int .i64 a0_0, .int .i64 a0_1]) (t := 27) ?hr ?_; (case hd => rfl); (case hg => rfl); (case hr => first | (go_simp; done) | (go_simp; rfl)); intro gb329 hg w5 hbox hb; have n0_ := Aside0.mk (below_step (bl_ HB.out) hb); have n1_ := Aside0.mk (hbox); have n2_ := Aside0.mk (szl_ hg HB.out); have n3_ := Aside0.mk (szl_ hg HB.out); clear HB; have HB := n0_; have BK329 := n1_; have GW329 := n2_; have GE329 := n3_; clear n0_ n1_ n2_ n3_ hb hbox hg; have hcz6_0 : w5.cell? ⟨gb329, 0, none⟩ = some (.int .i64 a0_0) := (blk_cell BK329.out 0).trans rfl; have hcz6_1 : w5.cell? ⟨gb329, 1, none⟩ = some (.int .i64 a0_1) := (blk_cell BK329.out 1).trans rfl; have hfz6_0 := blk_frozen BK329.out 0; have hfz6_1 := blk_frozen BK329.out 1) | ((with_reducible refine gate_callee (f := 37) rfl ?_); refine goesL_ (some 5) rfl rfl Try.func37 (by kernel_rfl) rfl #[.int .i64 a0_0, .int .i64 (-1000000), .int .i64 1000000] rfl (by (try simp only [List.map_toArray, List.map_cons, List.map_nil]); first | done | rfl | (simp only [List.length_drop, List.length_take]; rfl)) ?_; (with_reducible refine (swashplateref01_From.calls a0_0 (-1000000) 1000000 true _ A2.out).mono ?_); rintro e w' ⟨rfl, ⟨nd, rfl⟩⟩; refine ⟨_, rfl, ?_⟩) | (go_at_call 37; (with_reducible refine (swashplateref01_From.calls a0_1 a0_0 1000000 t331 _ A4.out).mono ?_); rintro e w' ⟨rfl, ⟨nd, rfl⟩⟩))
  go_ret
  exact ⟨by first | rfl | (simp [errW_none, errW_some] <;> rfl) | (simp [*, errW_none, errW_some] <;> rfl), bl_ HB.out⟩
 ·
  replace c3 := Bool.eq_false_iff.mpr c3
  subst c3
  have H1 : (some false) = some r := by rw [if_neg (show ¬ (false = true) by decide)] at H; exact H
  clear H
  have H := H1
  clear H1
  obtain rfl := Option.some.inj H
  go_enter Try.func40, Try.ntmps40
  go_wp2_with (first | ((with_reducible refine gate_dst (N := 1) rfl ?_); refine box_event ?hg (N := 1) ?hd (cs := #[.int .i64 a0_0, .int .i64 a0_1]) (t := 27) ?hr ?_; (case hd => rfl); (case hg => rfl); (case hr => first | (go_simp; done) | (go_simp; rfl)); intro gb329 hg w7 hbox hb; have n0_ := Aside0.mk (below_step (bl_ HB.out) hb); have n1_ := Aside0.mk (hbox); have n2_ := Aside0.mk (szl_ hg HB.out); have n3_ := Aside0.mk (szl_ hg HB.out); clear HB; have HB := n0_; have BK329 := n1_; have GW329 := n2_; have GE329 := n3_; clear n0_ n1_ n2_ n3_ hb hbox hg; have hcz8_0 : w7.cell? ⟨gb329, 0, none⟩ = some (.int .i64 a0_0) := (blk_cell BK329.out 0).trans rfl; have hcz8_1 : w7.cell? ⟨gb329, 1, none⟩ = some (.int .i64 a0_1) := (blk_cell BK329.out 1).trans rfl; have hfz8_0 := blk_frozen BK329.out 0; have hfz8_1 := blk_frozen BK329.out 1) | ((with_reducible refine gate_callee (f := 37) rfl ?_); refine goesL_ (some 5) rfl rfl Try.func37 (by kernel_rfl) rfl #[.int .i64 a0_0, .int .i64 (-1000000), .int .i64 1000000] rfl (by (try simp only [List.map_toArray, List.map_cons, List.map_nil]); first | done | rfl | (simp only [List.length_drop, List.length_take]; rfl)) ?_; (with_reducible refine (swashplateref01_From.calls a0_0 (-1000000) 1000000 false _ A2.out).mono ?_); rintro e w' ⟨rfl, ⟨nd, rfl⟩⟩; refine ⟨_, rfl, ?_⟩))
  go_ret
  exact ⟨by first | rfl | (simp [errW_none, errW_some] <;> rfl) | (simp [*, errW_none, errW_some] <;> rfl), bl_ HB.out⟩
end Go.Proofs.Yteodlmgmmpkpoaa.PS
end
section
namespace Go.Proofs.Yteodlmgmmpkpoaa.PS
open Go.RowKit Go.Proofs.YteodlmgmmpkpoaaW.PrintWords Go.Proofs.YteodlmgmmpkpoaaW.PrintLast Go.Proofs.YteodlmgmmpkpoaaW.PrintMore
attribute [local go_sem] max2_int min2_int max_two min_two max_three min_three max_four min_four   -- for this text's walks alone
set_option linter.unusedVariables false
set_option linter.unusedSimpArgs false
set_option maxHeartbeats 8000000 in
set_option maxRecDepth 100000 in
theorem swashplateref01_Check.calls (k : Nat) (A0 : Option Addr) (c0 : Nat) (l0 : List (S27)) (r : Int) (w : World) (hr0 : Kd.C k27 w A0 l0.length l0) (hc0 : l0.length ≤ c0) (h : swashplateref01_Check.f k l0 = some r) :
  Calls Try.prog 28 #[.slice A0 l0.length c0] w fun e w' => e = .returned (.int .i64 r) ∧ Below w.heap.size w w' := by
 have hu27 := Try.underlying27
 have HR0 := Aside0.mk hr0
 have HC0 := Aside0.mk hc0
 clear hr0 hc0
 have HB := Aside0.mk (Below.refl w.heap.size w)
 have H : ((swashplateref01_From.f (l0.length : Int) 1 3).bind fun t332 => (if t332 = true then (swashplateref01_Check.l0 k l0 0) else (some 10))) = some r := h
 clear h
 replace H := Option.bind_eq_some_iff.mp H
 obtain ⟨t332, A20, H⟩ := H
 replace H : (if t332 = true then (swashplateref01_Check.l0 k l0 0) else (some 10)) = some r := H
 have A2 := Aside0.mk A20
 clear A20
 by_cases c3 : t332 = true
 ·
  subst c3
  have H1 : (swashplateref01_Check.l0 k l0 0) = some r := by rw [if_pos rfl] at H; exact H
  clear H
  have H := H1
  clear H1
  have H' := Aside0.mk H
  clear H
  go_enter Try.func28, Try.ntmps28
  go_wp2_with (first | ((with_reducible refine gate_callee (f := 37) rfl ?_); refine goesL_ (some 6) rfl rfl Try.func37 (by kernel_rfl) rfl #[.int .i64 (l0.length : Int), .int .i64 1, .int .i64 3] rfl (by (try simp only [List.map_toArray, List.map_cons, List.map_nil]); first | done | rfl | (simp only [List.length_drop, List.length_take]; rfl)) ?_; (with_reducible refine (swashplateref01_From.calls (l0.length : Int) 1 3 true _ A2.out).mono ?_); rintro e w' ⟨rfl, ⟨nd, rfl⟩⟩; refine ⟨_, rfl, ?_⟩))
  go_loopg [3] k (fun kq v3 w' => ∃ (x3_1 : Int), v3 = .int .i64 x3_1 ∧ Aside0 (swashplateref01_Check.l0 kq l0 x3_1 = some r) ∧ Aside0 (kq ≤ k) ∧ Aside0 (Below w.heap.size w w'))
  case atStart => exact ⟨(0), (by first | rfl | (simp; done) | (simp [*]; done)), H', ⟨Nat.le_refl _⟩, ⟨bl_ HB.out⟩⟩
  case round =>
   clear H'
   try clear c2
   try clear p2
   try clear c3
   obtain ⟨x3_1, rfl, HA, HK1, HB⟩ := hrel
   cases gk with
   | zero => exact absurd HA.out (by simp [swashplateref01_Check.l0])
   | succ k1 =>
    have H := HA.out
    clear HA
    simp only [swashplateref01_Check.l0] at H
    by_cases c4 : x3_1 < (l0.length : Int)
    ·
     rw [if_pos c4] at H
     have c4b0 : decide (x3_1 < (l0.length : Int)) = true := decide_eq_true c4
     clear c4
     by_cases c5 : 0 ≤ x3_1
     ·
      rw [if_pos c5] at H
      have c5b0 : decide (0 ≤ x3_1) = true := decide_eq_true c5
      clear c5
      replace H := Option.bind_eq_some_iff.mp H
      obtain ⟨t334, A60, H⟩ := H
      replace H : (if t334 = true then (swashplateref01_Check.l0 k1 l0 (wrap64 (x3_1 + 1))) else (some 10)) = some r := H
      have A6 := Aside0.mk A60
      clear A60
      by_cases c7 : t334 = true
      ·
       subst c7
       have H1 : (swashplateref01_Check.l0 k1 l0 (wrap64 (x3_1 + 1))) = some r := by rw [if_pos rfl] at H; exact H
       clear H
       have H := H1
       clear H1
       have H' := Aside0.mk H
       clear H
       have p333 : 0 ≤ (x3_1 : Int) := of_decide_eq_true (by first | (with_reducible assumption) | assumption)
       have q333 : x3_1 < (l0.length : Int) := of_decide_eq_true (by first | (with_reducible assumption) | assumption)
       obtain ⟨ad333, e333, hx333_0, hx333_1⟩ := at_T27 HR0.out x3_1 p333 q333
       cases e333
       replace hx333_0 := (HB.out.cell (World.block_lt_of_cell? w _ hx333_0)).trans hx333_0
       replace hx333_1 := (HB.out.cell (World.block_lt_of_cell? w _ hx333_1)).trans hx333_1
       replace p333 := eq_true p333
       replace q333 := eq_true q333
       go_wp2_with (first | ((with_reducible refine gate_callee (f := 40) rfl ?_); refine goesL_ (some 18) rfl rfl Try.func40 (by kernel_rfl) rfl #[.agg #[.int .i64 ((rd_T27 l0 x3_1).f0), .int .i64 ((rd_T27 l0 x3_1).f1)]] rfl (by (try simp only [List.map_toArray, List.map_cons, List.map_nil]); first | done | rfl | (simp only [List.length_drop, List.length_take]; rfl)) ?_; (with_reducible refine (swashplateref01_Valid.calls ((rd_T27 l0 x3_1).f0) ((rd_T27 l0 x3_1).f1) true _ A6.out).mono ?_); rintro e w8 ⟨rfl, hb⟩; refine ⟨_, rfl, ?_⟩; have n0_ := Aside0.mk (below_step (bl_ HB.out) hb); clear HB; have HB := n0_; clear n0_; (try clear hb); (try clear hb2); (try clear hk); (try clear hi)))
       go_roundg k1
       case measure => have := HK1.out; omega
       case rel => exact ⟨(wrap64 (x3_1 + 1)), (by first | rfl | (simp; done) | (simp [*]; done)), H', ⟨by have := HK1.out; omega⟩, ⟨bl_ HB.out⟩⟩
      ·
       replace c7 := Bool.eq_false_iff.mpr c7
       subst c7
       have H1 : (some 10) = some r := by rw [if_neg (show ¬ (false = true) by decide)] at H; exact H
       clear H
       have H := H1
       clear H1
       obtain rfl := Option.some.inj H
       have p333 : 0 ≤ (x3_1 : Int) := of_decide_eq_true (by first | (with_reducible assumption) | assumption)
       have q333 : x3_1 < (l0.length : Int) := of_decide_eq_true (by first | (with_reducible assumption) | assumption)
       obtain ⟨ad333, e333, hx333_0, hx333_1⟩ := at_T27 HR0.out x3_1 p333 q333
       cases e333
       replace hx333_0 := (HB.out.cell (World.block_lt_of_cell? w _ hx333_0)).trans hx333_0
       replace hx333_1 := (HB.out.cell (World.block_lt_of_cell? w _ hx333_1)).trans hx333_1
       replace p333 := eq_true p333
       replace q333 := eq_true q333
       go_wp2_with (first | ((with_reducible refine gate_callee (f := 40) rfl ?_); refine goesL_ (some 18) rfl rfl Try.func40 (by kernel_rfl) rfl #[.agg #[.int .i64 ((rd_T27 l0 x3_1).f0), .int .i64 ((rd_T27 l0 x3_1).f1)]] rfl (by (try simp only [List.map_toArray, List.map_cons, List.map_nil]); first | done | rfl | (simp only [List.length_drop, List.length_take]; rfl)) ?_; (with_reducible refine (swashplateref01_Valid.calls ((rd_T27 l0 x3_1).f0) ((rd_T27 l0 x3_1).f1) false _ A6.out).mono ?_); rintro e w9 ⟨rfl, hb⟩; refine ⟨_, rfl, ?_⟩; have n0_ := Aside0.mk (below_step (bl_ HB.out) hb); clear HB; have HB := n0_; clear n0_; (try clear hb); (try clear hb2); (try clear hk); (try clear hi)))
       go_ret
       exact ⟨by first | rfl | (simp [errW_none, errW_some] <;> rfl) | (simp [*, errW_none, errW_some] <;> rfl), bl_ HB.out⟩
     ·
      rw [if_neg c5] at H
      exact absurd H (by simp)
    ·
     rw [if_neg c4] at H
     have c4b0 : decide (x3_1 < (l0.length : Int)) = false := decide_eq_false c4
     clear c4
     obtain rfl := Option.some.inj H
     go_wp2
     go_ret
     exact ⟨by first | rfl | (simp [errW_none, errW_some] <;> rfl) | (simp [*, errW_none, errW_some] <;> rfl), bl_ HB.out⟩
 ·
  replace c3 := Bool.eq_false_iff.mpr c3
  subst c3
  have H1 : (some 10) = some r := by rw [if_neg (show ¬ (false = true) by decide)] at H; exact H
  clear H
  have H := H1
  clear H1
  obtain rfl := Option.some.inj H
  go_enter Try.func28, Try.ntmps28
  go_wp2_with (first | ((with_reducible refine gate_callee (f := 37) rfl ?_); refine goesL_ (some 6) rfl rfl Try.func37 (by kernel_rfl) rfl #[.int .i64 (l0.length : Int), .int .i64 1, .int .i64 3] rfl (by (try simp only [List.map_toArray, List.map_cons, List.map_nil]); first | done | rfl | (simp only [List.length_drop, List.length_take]; rfl)) ?_; (with_reducible refine (swashplateref01_From.calls (l0.length : Int) 1 3 false _ A2.out).mono ?_); rintro e w' ⟨rfl, ⟨nd, rfl⟩⟩; refine ⟨_, rfl, ?_⟩))
  go_ret
  exact ⟨by first | rfl | (simp [errW_none, errW_some] <;> rfl) | (simp [*, errW_none, errW_some] <;> rfl), bl_ HB.out⟩
end Go.Proofs.Yteodlmgmmpkpoaa.PS
end
section
namespace Go.Proofs.Yteodlmgmmpkpoaa.PS
open Go.RowKit Go.Proofs.YteodlmgmmpkpoaaW.PrintWords Go.Proofs.YteodlmgmmpkpoaaW.PrintLast Go.Proofs.YteodlmgmmpkpoaaW.PrintMore
attribute [local go_sem] max2_int min2_int max_two min_two max_three min_three max_four min_four   -- for this text's walks alone
set_option linter.unusedVariables false
set_option linter.unusedSimpArgs false
set_option maxHeartbeats 8000000 in
set_option maxRecDepth 100000 in
theorem swashplatelaw01_box.calls (A0 : Option Addr) (c0 : Nat) (l0 : List (S27)) (r : List (S27)) (w : World) (hr0 : Kd.C k27 w A0 l0.length l0) (hc0 : l0.length ≤ c0) (h : swashplatelaw01_box.f l0 = some r) :
  Calls Try.prog 27 #[.slice A0 l0.length c0] w fun e w' => ∃ v0_ : Value, e = .returned (v0_) ∧ Kd.R k27 27 w' w.heap.size (fun _ => True) v0_ r ∧ Below w.heap.size w w' := by
 have HR0 := Aside0.mk hr0
 have HC0 := Aside0.mk hc0
 clear hr0 hc0
 have HB := Aside0.mk (Below.refl w.heap.size w)
 have H : ((some (([] : List (S27)) : List (S27))).bind fun y323 => (if y323.length + l0.length < 8796093022208 then (some (y323 ++ l0)) else (none))) = some r := h
 clear h
 obtain ⟨y323, hy323⟩ : ∃ y_ : List (S27), y_ = (([] : List (S27))) := ⟨_, rfl⟩
 replace H : (if y323.length + l0.length < 8796093022208 then (some (y323 ++ l0)) else (none)) = some r := by first | (rw [hy323]; with_reducible exact H) | (have H2_ := (Option.bind_some _ _).symm.trans H; rw [hy323]; with_reducible exact H2_) | (have H2_ := (Option.bind_some _ _).symm.trans H; with_reducible exact H2_) | with_reducible exact H | (rw [hy323]; exact H) | exact H
 have Ny323 := Aside0.mk hy323
 clear hy323
 by_cases c2 : y323.length + l0.length < 8796093022208
 ·
  rw [if_pos c2] at H
  have LMc2 := Aside0.mk c2
  clear c2
  obtain ⟨y326, hy326⟩ : ∃ y_ : List (S27), y_ = (y323 ++ l0) := ⟨_, rfl⟩
  replace H : (some y326) = some r := by first | (rw [hy326]; with_reducible exact H) | (have H2_ := (Option.bind_some _ _).symm.trans H; rw [hy326]; with_reducible exact H2_) | (have H2_ := (Option.bind_some _ _).symm.trans H; with_reducible exact H2_) | with_reducible exact H | (rw [hy326]; exact H) | exact H
  have Ny326 := Aside0.mk hy326
  clear hy326
  obtain rfl := Option.some.inj H
  go_enter Try.func27, Try.ntmps27
  go_wp2_with (first | ((with_reducible refine gate_dst (N := 3) rfl ?_); refine Kd.R_lit k27 _ 27 ?hg (N := 3) ?hd (xs := ([] : List (S27))) (inner := []) (ok := fun _ => True) (okp := fun _ => True) ?hr ?hp (fun _ hk => hk) trivial (Below.refl _ _) (Nat.le_refl _) (by simp) ?_; (case hd => rfl); (case hg => rfl); (case hr => first | (go_simp; done) | (go_simp; rfl)); (case hp => exact (Reps.none _ _)); intro v324 w3 ho4 hb hg_ hnew_; clear hg_ hnew_; (first | rw [← Ny323.out] at ho4 | (simp only [Int.reduceToNat] at ho4; rw [← Ny323.out] at ho4)); have n0_ := Aside0.mk (Kd.R_lower ho4 (below_size (bl_ HB.out))); have n1_ := Aside0.mk (below_step (bl_ HB.out) hb); clear HB; have HO325 := n0_; have HB := n1_; clear n0_ n1_ hb ho4) | ((with_reducible refine gate_builtin (b := .append) (xs := #[.tmp 3, .tmp 4]) rfl ?_); at_builtin; refine Kd.R_append_rows k27 (w0 := w) w.heap.size rfl (.tmp 3) (.tmp 4) 38 27 (.agg #[(.int .i64 0), (.int .i64 0)]) 16 rfl Try.underlying38 info27 rfl (by decide) (by omega) v324 y323 l0 _ _ _ (fun _ => True) (fun _ => False) rfl rfl ?aO ?aR (fun _ _ h => h) (fun _ h => h.elim) ?aF ?aB ?aS ?aL ?_; (case aR => exact cr_ (Kd.C_below HR0.out HB.out)); (case aB => exact (bl_ HB.out)); (case aF => exact (fun _ _ => trivial)); (case aO => exact (by (with_reducible repeat (first | apply Kd.R_alloc | apply Kd.R_drewN | apply Kd.R_drew)); exact HO325.out)); (case aS => exact (below_size (bl_ HB.out))); (case aL => have := LMc2.out; omega); intro v327 w5 ho hb hg hat; rw [← Ny326.out] at ho; have n0_ := Aside0.mk (hb); have n1_ := Aside0.mk (ho); clear HB HO325; have HB := n0_; have HO328 := n1_; clear n0_ n1_ ho hb hg hat))
  go_ret
  exact ⟨_, by first | rfl | (simp [errW_none, errW_some] <;> rfl) | (simp [*, errW_none, errW_some] <;> rfl), by (with_reducible repeat (first | apply Kd.R_alloc | apply Kd.R_drewN | apply Kd.R_drew)); exact HO328.out, bl_ HB.out⟩
 ·
  rw [if_neg c2] at H
  exact absurd H (by simp)
end Go.Proofs.Yteodlmgmmpkpoaa.PS
end
section
namespace Go.Proofs.Yteodlmgmmpkpoaa.PS
open Go.RowKit Go.Deep Go.ChangeShapes Go.WideShapes Go.ChangeAt Go.Proofs.YteodlmgmmpkpoaaW.PrintWords
set_option linter.unusedVariables false
theorem opn38 : Opn Try.prog (Kd.slice 27 k27) 38 (fun l => (∀ a ∈ l, wfS a) ∧ l.length ≤ maxLen) := opn_slice Try.underlying38 (by kernel_rfl) opn27
section
variable {H : Type} {enc : TypeId × Value → H} {w : World} {base : Nat} {held : Bool} {v : Value} {d : DataW H} {ps : List MemPlace} {r : Reach} {b0 : Nat}
set_option maxRecDepth 100000 in
theorem arg95 (hv : Value.okWide Try.prog w r b0 95 v) (h : DataW.Trod enc Try.prog w base (fun _ => true) held 95 v d ps) :
    ∃ A c, ∃ l : List (List S27), v = .slice A l.length c ∧ l.length ≤ c ∧ (Kd.slice 27 k27).C w A l.length l ∧ (∀ a ∈ l, (∀ b ∈ a, wfS b) ∧ a.length ≤ maxLen) ∧ l.length ≤ maxLen := by
  obtain ⟨a0, len, cap, rfl⟩ := okWide_slice Try.underlying95 hv
  obtain ⟨fuel, hf⟩ := h
  obtain ⟨A, c, l, hcs, h1, h2, h3, h4⟩ := opn_row Try.underlying95 opn38 hf
  simp [Value.cells] at hcs
  obtain ⟨rfl, rfl, rfl⟩ := hcs
  exact ⟨_, _, l, rfl, h1, h2, h3, h4⟩
end
end Go.Proofs.Yteodlmgmmpkpoaa.PS
end
section
namespace Go.Proofs.Yteodlmgmmpkpoaa.PS
open Go.RowKit Go.Proofs.YteodlmgmmpkpoaaW.PrintWords Go.Proofs.YteodlmgmmpkpoaaW.PrintLast Go.Proofs.YteodlmgmmpkpoaaW.PrintMore
set_option linter.unusedVariables false
set_option linter.unusedSimpArgs false
theorem boxB_at {l : List S27} (h : boxB l = true) {d : Nat} (hd : d < l.length) : -1000000 ≤ (l.getD d z27).f0 ∧ (l.getD d z27).f0 ≤ (l.getD d z27).f1 ∧ (l.getD d z27).f1 ≤ 1000000 := by
  unfold boxB at h
  simp only [Bool.and_eq_true, List.all_eq_true] at h
  have := h.2 _ (getD_mem l z27 d hd)
  unfold okS at this
  simp only [Bool.and_eq_true, decide_eq_true_eq] at this
  exact ⟨this.1.1, this.1.2, this.2⟩
theorem boxB_size {l : List S27} (h : boxB l = true) : 1 ≤ l.length ∧ l.length ≤ 3 := by
  unfold boxB at h
  simp only [Bool.and_eq_true, decide_eq_true_eq] at h
  exact h.1
end Go.Proofs.Yteodlmgmmpkpoaa.PS
end
section
namespace Go.Proofs.Yteodlmgmmpkpoaa.PS
open Go.RowKit Go.Proofs.YteodlmgmmpkpoaaW.PrintWords Go.Proofs.YteodlmgmmpkpoaaW.PrintLast Go.Proofs.YteodlmgmmpkpoaaW.PrintMore
attribute [local go_sem] max2_int min2_int max_two min_two max_three min_three max_four min_four   -- for this text's walks alone
set_option linter.unusedVariables false
set_option linter.unusedSimpArgs false
def swashplateref01_In.l0 : Nat → List Int → List (S27) → Int → Option (Bool)
 | 0, _, _, _ => none
 | k + 1, x0, x1, x5 => if x5 < (x1.length : Int) then (if 0 ≤ x5 then (if x5 < (x0.length : Int) then ((swashplateref01_From.f (rd x0 x5) ((rd_T27 x1 x5).f0) ((rd_T27 x1 x5).f1)).bind fun t663 => (if t663 = true then (swashplateref01_In.l0 k x0 x1 (wrap64 (x5 + 1))) else (some false))) else (none)) else (none)) else (some true)
def swashplateref01_In.f (k : Nat) (l0 : List Int) (l1 : List (S27)) : Option (Bool) := swashplateref01_In.l0 k l0 l1 0
set_option maxHeartbeats 8000000 in
set_option maxRecDepth 100000 in
theorem swashplateref01_In.calls (k : Nat) (A0 : Option Addr) (c0 : Nat) (l0 : List Int) (A1 : Option Addr) (c1 : Nat) (l1 : List (S27)) (r : Bool) (w : World) (hr0 : Kd.C (Kd.int .i64) w A0 l0.length l0) (hc0 : l0.length ≤ c0) (hr1 : Kd.C k27 w A1 l1.length l1) (hc1 : l1.length ≤ c1) (h : swashplateref01_In.f k l0 l1 = some r) :
  Calls Try.prog 63 #[.slice A0 l0.length c0, .slice A1 l1.length c1] w fun e w' => e = .returned (.bool r) ∧ Drawn0 w w' := by
 have HR0 := Aside0.mk hr0
 have HC0 := Aside0.mk hc0
 clear hr0 hc0
 have HR1 := Aside0.mk hr1
 have HC1 := Aside0.mk hc1
 clear hr1 hc1
 have H : (swashplateref01_In.l0 k l0 l1 0) = some r := h
 clear h
 have H' := Aside0.mk H
 clear H
 go_enter Try.func63, Try.ntmps63
 go_wp2
 go_loopg [5] k (fun kq v5 w' => ∃ (x5_1 : Int), v5 = .int .i64 x5_1 ∧ Aside0 (swashplateref01_In.l0 kq l0 l1 x5_1 = some r) ∧ Aside0 (kq ≤ k) ∧ Drawn0 w w')
 case atStart => exact ⟨(0), (by first | rfl | (simp; done) | (simp [*]; done)), H', ⟨Nat.le_refl _⟩, by repeat (first | exact Drawn0.refl _ | apply Drawn0.step)⟩
 case round =>
  clear H'
  try clear c1
  try clear p2
  obtain ⟨x5_1, rfl, HA, HK1, ⟨m1, rfl⟩⟩ := hrel
  cases gk with
  | zero => exact absurd HA.out (by simp [swashplateref01_In.l0])
  | succ k1 =>
   have H := HA.out
   clear HA
   simp only [swashplateref01_In.l0] at H
   by_cases c3 : x5_1 < (l1.length : Int)
   ·
    rw [if_pos c3] at H
    have c3b0 : decide (x5_1 < (l1.length : Int)) = true := decide_eq_true c3
    clear c3
    by_cases c4 : 0 ≤ x5_1
    ·
     rw [if_pos c4] at H
     have c4b0 : decide (0 ≤ x5_1) = true := decide_eq_true c4
     clear c4
     by_cases c5 : x5_1 < (l0.length : Int)
     ·
      rw [if_pos c5] at H
      have c5b0 : decide (x5_1 < (l0.length : Int)) = true := decide_eq_true c5
      clear c5
      replace H := Option.bind_eq_some_iff.mp H
      obtain ⟨t663, A60, H⟩ := H
      replace H : (if t663 = true then (swashplateref01_In.l0 k1 l0 l1 (wrap64 (x5_1 + 1))) else (some false)) = some r := H
      have A6 := Aside0.mk A60
      clear A60
      by_cases c7 : t663 = true
      ·
       subst c7
       have H1 : (swashplateref01_In.l0 k1 l0 l1 (wrap64 (x5_1 + 1))) = some r := by rw [if_pos rfl] at H; exact H
       clear H
       have H := H1
       clear H1
       have H' := Aside0.mk H
       clear H
       have p660 : 0 ≤ (x5_1 : Int) := of_decide_eq_true (by first | (with_reducible assumption) | assumption)
       have q660 : x5_1 < (l0.length : Int) := of_decide_eq_true (by first | (with_reducible assumption) | assumption)
       obtain ⟨ad660, e660, hx660_0⟩ := Kd.at_int HR0.out x5_1 p660 q660
       cases e660
       replace p660 := eq_true p660
       replace q660 := eq_true q660
       have p661 : 0 ≤ (x5_1 : Int) := of_decide_eq_true (by first | (with_reducible assumption) | assumption)
       have q661 : x5_1 < (l1.length : Int) := of_decide_eq_true (by first | (with_reducible assumption) | assumption)
       obtain ⟨ad661, e661, hx661_0, hx661_1⟩ := at_T27 HR1.out x5_1 p661 q661
       cases e661
       replace p661 := eq_true p661
       replace q661 := eq_true q661
       have p662 : 0 ≤ (x5_1 : Int) := of_decide_eq_true (by first | (with_reducible assumption) | assumption)
       have q662 : x5_1 < (l1.length : Int) := of_decide_eq_true (by first | (with_reducible assumption) | assumption)
       obtain ⟨ad662, e662, hx662_0, hx662_1⟩ := at_T27 HR1.out x5_1 p662 q662
       obtain rfl : ad661 = ad662 := (by injection e662)
       replace p662 := eq_true p662
       replace q662 := eq_true q662
       go_wp2_with (first | (go_at_call 37; (with_reducible refine (swashplateref01_From.calls (rd l0 x5_1) ((rd_T27 l1 x5_1).f0) ((rd_T27 l1 x5_1).f1) true _ A6.out).mono ?_); rintro e w' ⟨rfl, ⟨nd, rfl⟩⟩; (try first | exact ⟨rfl, _, World.drewN_drewN _ _ _⟩ | exact ⟨rfl, _, Eq.trans (World.drewN_drewN _ _ _) (congrArg (World.drewN _) (Nat.add_assoc _ _ _))⟩)))
       repeat (go_quiet (first | (go_at_call 37; (with_reducible refine (swashplateref01_From.calls (rd l0 x5_1) ((rd_T27 l1 x5_1).f0) ((rd_T27 l1 x5_1).f1) true _ A6.out).mono ?_); rintro e w' ⟨rfl, ⟨nd, rfl⟩⟩; (try first | exact ⟨rfl, _, World.drewN_drewN _ _ _⟩ | exact ⟨rfl, _, Eq.trans (World.drewN_drewN _ _ _) (congrArg (World.drewN _) (Nat.add_assoc _ _ _))⟩))); try go_wp2_with (first | (go_at_call 37; (with_reducible refine (swashplateref01_From.calls (rd l0 x5_1) ((rd_T27 l1 x5_1).f0) ((rd_T27 l1 x5_1).f1) true _ A6.out).mono ?_); rintro e w' ⟨rfl, ⟨nd, rfl⟩⟩; (try first | exact ⟨rfl, _, World.drewN_drewN _ _ _⟩ | exact ⟨rfl, _, Eq.trans (World.drewN_drewN _ _ _) (congrArg (World.drewN _) (Nat.add_assoc _ _ _))⟩))))
       go_roundg k1
       case measure => have := HK1.out; omega
       case rel => exact ⟨(wrap64 (x5_1 + 1)), (by first | rfl | (simp; done) | (simp [*]; done)), H', ⟨by have := HK1.out; omega⟩, by repeat (first | exact Drawn0.refl _ | apply Drawn0.step)⟩
      ·
       replace c7 := Bool.eq_false_iff.mpr c7
       subst c7
       have H1 : (some false) = some r := by rw [if_neg (show ¬ (false = true) by decide)] at H; exact H
       clear H
       have H := H1
       clear H1
       obtain rfl := Option.some.inj H
       have p660 : 0 ≤ (x5_1 : Int) := of_decide_eq_true (by first | (with_reducible assumption) | assumption)
       have q660 : x5_1 < (l0.length : Int) := of_decide_eq_true (by first | (with_reducible assumption) | assumption)
       obtain ⟨ad660, e660, hx660_0⟩ := Kd.at_int HR0.out x5_1 p660 q660
       cases e660
       replace p660 := eq_true p660
       replace q660 := eq_true q660
       have p661 : 0 ≤ (x5_1 : Int) := of_decide_eq_true (by first | (with_reducible assumption) | assumption)
       have q661 : x5_1 < (l1.length : Int) := of_decide_eq_true (by first | (with_reducible assumption) | assumption)
       obtain ⟨ad661, e661, hx661_0, hx661_1⟩ := at_T27 HR1.out x5_1 p661 q661
       cases e661
       replace p661 := eq_true p661
       replace q661 := eq_true q661
       have p662 : 0 ≤ (x5_1 : Int) := of_decide_eq_true (by first | (with_reducible assumption) | assumption)
       have q662 : x5_1 < (l1.length : Int) := of_decide_eq_true (by first | (with_reducible assumption) | assumption)
       obtain ⟨ad662, e662, hx662_0, hx662_1⟩ := at_T27 HR1.out x5_1 p662 q662
       obtain rfl : ad661 = ad662 := (by injection e662)
       replace p662 := eq_true p662
       replace q662 := eq_true q662
       go_wp2_with (first | (go_at_call 37; (with_reducible refine (swashplateref01_From.calls (rd l0 x5_1) ((rd_T27 l1 x5_1).f0) ((rd_T27 l1 x5_1).f1) false _ A6.out).mono ?_); rintro e w' ⟨rfl, ⟨nd, rfl⟩⟩; (try first | exact ⟨rfl, _, World.drewN_drewN _ _ _⟩ | exact ⟨rfl, _, Eq.trans (World.drewN_drewN _ _ _) (congrArg (World.drewN _) (Nat.add_assoc _ _ _))⟩)))
       repeat (go_quiet (first | (go_at_call 37; (with_reducible refine (swashplateref01_From.calls (rd l0 x5_1) ((rd_T27 l1 x5_1).f0) ((rd_T27 l1 x5_1).f1) false _ A6.out).mono ?_); rintro e w' ⟨rfl, ⟨nd, rfl⟩⟩; (try first | exact ⟨rfl, _, World.drewN_drewN _ _ _⟩ | exact ⟨rfl, _, Eq.trans (World.drewN_drewN _ _ _) (congrArg (World.drewN _) (Nat.add_assoc _ _ _))⟩))); try go_wp2_with (first | (go_at_call 37; (with_reducible refine (swashplateref01_From.calls (rd l0 x5_1) ((rd_T27 l1 x5_1).f0) ((rd_T27 l1 x5_1).f1) false _ A6.out).mono ?_); rintro e w' ⟨rfl, ⟨nd, rfl⟩⟩; (try first | exact ⟨rfl, _, World.drewN_drewN _ _ _⟩ | exact ⟨rfl, _, Eq.trans (World.drewN_drewN _ _ _) (congrArg (World.drewN _) (Nat.add_assoc _ _ _))⟩))))
       go_ret
       exact ⟨by first | rfl | (simp; done) | (simp [*]; done), by repeat (first | exact Drawn0.refl _ | apply Drawn0.step)⟩
     ·
      rw [if_neg c5] at H
      exact absurd H (by simp)
    ·
     rw [if_neg c4] at H
     exact absurd H (by simp)
   ·
    rw [if_neg c3] at H
    have c3b0 : decide (x5_1 < (l1.length : Int)) = false := decide_eq_false c3
    clear c3
    obtain rfl := Option.some.inj H
    go_wp2
    go_ret
    exact ⟨by first | rfl | (simp; done) | (simp [*]; done), by repeat (first | exact Drawn0.refl _ | apply Drawn0.step)⟩
end Go.Proofs.Yteodlmgmmpkpoaa.PS
end
section
namespace Go.Proofs.Yteodlmgmmpkpoaa.PS
open Go.RowKit Go.Proofs.YteodlmgmmpkpoaaW.PrintWords Go.Proofs.YteodlmgmmpkpoaaW.PrintLast Go.Proofs.YteodlmgmmpkpoaaW.PrintMore
set_option linter.unusedVariables false
set_option linter.unusedSimpArgs false
theorem in_loop (p : List Int) (b : List S27) (hl : b.length ≤ 1000) (hp : p.length = b.length) : ∀ (k i : Nat), i ≤ b.length → b.length - i < k → swashplateref01_In.l0 k p b i = some (inT (p.drop i) (b.drop i))
  | 0, i, _, h => absurd h (Nat.not_lt_zero _)
  | k + 1, i, hi, hk => by
    simp only [swashplateref01_In.l0]
    by_cases hlt : i < b.length
    · rw [if_pos (by omega), if_pos (by omega), if_pos (by omega), rdT27_nat, rd_nat, from_total, Option.bind_some, drop_stepG z27 b i hlt, drop_stepG (0 : Int) p i (by omega)]
      simp only [inT]
      rw [show gI p i = p.getD i 0 from rfl]
      by_cases hc : (decide ((b.getD i z27).f0 ≤ p.getD i 0) && decide (p.getD i 0 ≤ (b.getD i z27).f1)) = true
      · rw [if_pos hc, step64 i (by omega), in_loop p b hl hp k (i + 1) (by omega) (by omega), hc, Bool.true_and]
      · rw [if_neg hc]; rw [Bool.not_eq_true] at hc; rw [hc, Bool.false_and]
    · rw [if_neg (by omega), List.drop_of_length_le (show b.length ≤ i by omega)]
      unfold inT
      split <;> simp_all
theorem in_total (p : List Int) (b : List S27) (hl : b.length ≤ 1000) (hp : p.length = b.length) (k : Nat) (hk : b.length < k) : swashplateref01_In.f k p b = some (inT p b) := by
  unfold swashplateref01_In.f
  have := in_loop p b hl hp k 0 (Nat.zero_le _) (by omega)
  rwa [List.drop_zero, List.drop_zero] at this
end Go.Proofs.Yteodlmgmmpkpoaa.PS
end
section
namespace Go.Proofs.Yteodlmgmmpkpoaa.PS
open Go.RowKit Go.Proofs.YteodlmgmmpkpoaaW.PrintWords Go.Proofs.YteodlmgmmpkpoaaW.PrintLast Go.Proofs.YteodlmgmmpkpoaaW.PrintMore
attribute [local go_sem] max2_int min2_int max_two min_two max_three min_three max_four min_four   -- for this text's walks alone
set_option linter.unusedVariables false
set_option linter.unusedSimpArgs false
def spans_corner.l0 : Nat → List Int → List (S27) → Int → Int → Option (List Int)
 | 0, _, _, _, _ => none
 | k + 1, x2, x5, x6, x7 => if x7 < x6 then (if 0 ≤ x7 then (if x7 < (x5.length : Int) then (if x2.length < 17592186044416 then (spans_corner.l0 k (x2 ++ [(rd_T27 x5 x7).f0]) x5 x6 (wrap64 (x7 + 1))) else (none)) else (none)) else (none)) else (some x2)
def spans_corner.f (k : Nat) (l0 : List (S27)) : Option (List Int) := spans_corner.l0 k ([] : List Int) l0 (l0.length : Int) 0
set_option maxHeartbeats 8000000 in
set_option maxRecDepth 100000 in
theorem spans_corner.calls (k : Nat) (A0 : Option Addr) (c0 : Nat) (l0 : List (S27)) (r : List Int) (w : World) (hr0 : Kd.C k27 w A0 l0.length l0) (hc0 : l0.length ≤ c0) (h : spans_corner.f k l0 = some r) :
  Calls Try.prog 139 #[.slice A0 l0.length c0] w fun e w' => ∃ v0_ : Value, e = .returned (v0_) ∧ Kd.R (Kd.int .i64) 3 w' w.heap.size (fun _ => True) v0_ r ∧ Below w.heap.size w w' := by
 have hu27 := Try.underlying27
 have HR0 := Aside0.mk hr0
 have HC0 := Aside0.mk hc0
 clear hr0 hc0
 have HB := Aside0.mk (Below.refl w.heap.size w)
 have H : (spans_corner.l0 k ([] : List Int) l0 (l0.length : Int) 0) = some r := h
 clear h
 have H' := Aside0.mk H
 clear H
 go_enter Try.func139, Try.ntmps139
 go_wp2
 go_loopg [2, 7] k (fun kq v2 v7 w' => ∃ (x2_1 : List Int) (x7_1 : Int), v7 = .int .i64 x7_1 ∧ Aside0 (spans_corner.l0 kq x2_1 l0 (l0.length : Int) x7_1 = some r) ∧ Aside0 (kq ≤ k) ∧ Aside0 (Kd.R (Kd.int .i64) 3 w' w.heap.size (fun _ => True) v2 x2_1) ∧ Aside0 (Below w.heap.size w w'))
 case atStart => exact ⟨(([] : List Int)), (0), (by first | rfl | (simp; done) | (simp [*]; done)), H', ⟨Nat.le_refl _⟩, ⟨by first | exact Kd.R_nil _ _ _ _ _ | exact Kd.N_nil _ _ _ _ _ | exact Kd.V_nil _ _ _ _ _ | exact Kd.Q_nil _ _ _ _ _ | exact Kd.S_nil _ _ _ _ _⟩, ⟨bl_ HB.out⟩⟩
 case round =>
  clear H'
  try clear c1
  obtain ⟨x2_1, x7_1, rfl, HA, HK1, HO_2, HB⟩ := hrel
  cases gk with
  | zero => exact absurd HA.out (by simp [spans_corner.l0])
  | succ k1 =>
   have H := HA.out
   clear HA
   simp only [spans_corner.l0] at H
   by_cases c2 : x7_1 < (l0.length : Int)
   ·
    rw [if_pos c2] at H
    have c2b0 : decide (x7_1 < (l0.length : Int)) = true := decide_eq_true c2
    clear c2
    by_cases c3 : 0 ≤ x7_1
    ·
     rw [if_pos c3] at H
     have c3b0 : decide (0 ≤ x7_1) = true := decide_eq_true c3
     clear c3
     by_cases c4 : x7_1 < (l0.length : Int)
     ·
      rw [if_pos c4] at H
      have c4b0 : decide (x7_1 < (l0.length : Int)) = true := decide_eq_true c4
      clear c4
      by_cases c5 : x2_1.length < 17592186044416
      ·
       rw [if_pos c5] at H
       have LMc5 := Aside0.mk c5
       clear c5
       obtain ⟨y147, hy147⟩ : ∃ y_ : List Int, y_ = (x2_1 ++ [(rd_T27 l0 x7_1).f0]) := ⟨_, rfl⟩
       replace H : (spans_corner.l0 k1 y147 l0 (l0.length : Int) (wrap64 (x7_1 + 1))) = some r := by first | (rw [hy147]; with_reducible exact H) | (have H2_ := (Option.bind_some _ _).symm.trans H; rw [hy147]; with_reducible exact H2_) | (have H2_ := (Option.bind_some _ _).symm.trans H; with_reducible exact H2_) | with_reducible exact H | (rw [hy147]; exact H) | exact H
       have Ny147 := Aside0.mk hy147
       clear hy147
       have H' := Aside0.mk H
       clear H
       have p145 : 0 ≤ (x7_1 : Int) := of_decide_eq_true (by first | (with_reducible assumption) | assumption)
       have q145 : x7_1 < (l0.length : Int) := of_decide_eq_true (by first | (with_reducible assumption) | assumption)
       obtain ⟨ad145, e145, hx145_0, hx145_1⟩ := at_T27 HR0.out x7_1 p145 q145
       cases e145
       replace hx145_0 := (HB.out.cell (World.block_lt_of_cell? w _ hx145_0)).trans hx145_0
       replace hx145_1 := (HB.out.cell (World.block_lt_of_cell? w _ hx145_1)).trans hx145_1
       replace p145 := eq_true p145
       replace q145 := eq_true q145
       go_wp2_with (first | ((with_reducible refine gate_dst (N := 4) rfl ?_); refine box_event ?hg (N := 4) ?hd (cs := #[.int .i64 0, .int .i64 0]) (t := 27) ?hr ?_; (case hd => rfl); (case hg => rfl); (case hr => first | (go_simp; done) | (go_simp; rfl)); intro gb146 hg w6 hbox hb; have n0_ := Aside0.mk (Kd.R_below (by (with_reducible repeat (first | apply Kd.R_alloc | apply Kd.R_drewN | apply Kd.R_drew)); exact HO_2.out) hb); have n1_ := Aside0.mk (below_step (bl_ HB.out) hb); have n2_ := Aside0.mk (hbox); have n3_ := Aside0.mk (szl_ hg HB.out); have n4_ := Aside0.mk (szl_ hg HB.out); clear HO_2 HB; have HO_2 := n0_; have HB := n1_; have BK146 := n2_; have GW146 := n3_; have GE146 := n4_; clear n0_ n1_ n2_ n3_ n4_ hb hbox hg; have hcz7_0 : w6.cell? ⟨gb146, 0, none⟩ = some (.int .i64 0) := (blk_cell BK146.out 0).trans rfl; have hcz7_1 : w6.cell? ⟨gb146, 1, none⟩ = some (.int .i64 0) := (blk_cell BK146.out 1).trans rfl; have hfz7_0 := blk_frozen BK146.out 0; have hfz7_1 := blk_frozen BK146.out 1) | ((with_reducible refine gate_builtin (b := .append) (xs := #[.tmp 11, .tmp 14]) rfl ?_); at_builtin; refine Kd.R_append (Kd.int .i64) (w0 := w) w.heap.size rfl (.tmp 11) (.tmp 14) 22 3 (.int .i64 0) 8 rfl Try.underlying22 info3 rfl (by decide) (by omega) u2 x2_1 ((rd_T27 l0 x7_1).f0) [.int .i64 ((rd_T27 l0 x7_1).f0)] (fun _ => True) (fun _ => False) rfl (by first | (go_simp; done) | (go_simp; rfl)) ?aP (fun _ hk => hk.elim) ?aF ?aO ?aB ?aS ?aL ?_; (case aP => exact rfl); (case aB => exact (bl_ HB.out)); (case aF => exact (fun _ _ => trivial)); (case aO => exact (by (with_reducible repeat (first | apply Kd.R_alloc | apply Kd.R_drewN | apply Kd.R_drew)); exact Kd.R_mono (Kd.R_far (p := ⟨gb146, 1, none⟩) (Kd.R_far (p := ⟨gb146, 0, none⟩) (Kd.R_types HO_2.out BK146.out (by decide)) (fun _ hk => hk.2) (.int .i64 ((rd_T27 l0 x7_1).f0))) (fun _ hk => hk.2) (.int .i64 ((rd_T27 l0 x7_1).f1))) (fun _ hk => trivial))); (case aS => exact (below_size (bl_ HB.out))); (case aL => have := LMc5.out; omega); intro v148 w8 ho hb hg hat; rw [← Ny147.out] at ho; have n0_ := Aside0.mk (blk_grown (g := gb146) (o := .cells #[.int .i64 ((rd_T27 l0 x7_1).f0), .int .i64 ((rd_T27 l0 x7_1).f1)] 27 (0, 0)) (by (with_reducible repeat (first | refine blk_drewN ?_ _ | refine blk_drew ?_ | refine blk_alloc ?_ _)); refine blk_put (cs := #[.int .i64 ((rd_T27 l0 x7_1).f0), .int .i64 0]) ?_ 1 _ rfl; (with_reducible repeat (first | refine blk_drewN ?_ _ | refine blk_drew ?_ | refine blk_alloc ?_ _)); refine blk_put (cs := #[.int .i64 0, .int .i64 0]) ?_ 0 _ rfl; (with_reducible repeat (first | refine blk_drewN ?_ _ | refine blk_drew ?_ | refine blk_alloc ?_ _)); exact BK146.out) hg (Kd.R_ne HO_2.out BK146.out (by decide))); have n1_ := Aside0.mk (hb); have n2_ := Aside0.mk (ho); clear BK146 HB HO_2; have BK146 := n0_; have HB := n1_; have HO149 := n2_; clear n0_ n1_ n2_ ho hb hg hat))
       go_roundg k1
       case measure => have := HK1.out; omega
       case rel => exact ⟨(y147), (wrap64 (x7_1 + 1)), (by first | rfl | (simp; done) | (simp [*]; done)), H', ⟨by have := HK1.out; omega⟩, ⟨by (with_reducible repeat (first | apply Kd.R_alloc | apply Kd.R_drewN | apply Kd.R_drew)); exact HO149.out⟩, ⟨bl_ HB.out⟩⟩
      ·
       rw [if_neg c5] at H
       exact absurd H (by simp)
     ·
      rw [if_neg c4] at H
      exact absurd H (by simp)
    ·
     rw [if_neg c3] at H
     exact absurd H (by simp)
   ·
    rw [if_neg c2] at H
    have c2b0 : decide (x7_1 < (l0.length : Int)) = false := decide_eq_false c2
    clear c2
    obtain rfl := Option.some.inj H
    go_wp2
    go_ret
    exact ⟨_, by first | rfl | (simp [errW_none, errW_some] <;> rfl) | (simp [*, errW_none, errW_some] <;> rfl), by (with_reducible repeat (first | apply Kd.R_alloc | apply Kd.R_drewN | apply Kd.R_drew)); exact HO_2.out, bl_ HB.out⟩
end Go.Proofs.Yteodlmgmmpkpoaa.PS
end
section
namespace Go.Proofs.Yteodlmgmmpkpoaa.PS
open Go.RowKit Go.Proofs.YteodlmgmmpkpoaaW.PrintWords Go.Proofs.YteodlmgmmpkpoaaW.PrintLast Go.Proofs.YteodlmgmmpkpoaaW.PrintMore
attribute [local go_sem] max2_int min2_int max_two min_two max_three min_three max_four min_four   -- for this text's walks alone
set_option linter.unusedVariables false
set_option linter.unusedSimpArgs false
def cmp_Compare_int.f (a0 : Int) (a1 : Int) : Option (Int) := (cmp_isNaN_int.f a0).bind fun t150 => ((cmp_isNaN_int.f a1).bind fun t151 => (if t150 = true then (if t151 = true then (some 0) else (some (-1))) else (if t151 = true then (some 1) else (if a0 < a1 then (some (-1)) else (if a0 > a1 then (some 1) else (some 0))))))
set_option maxHeartbeats 8000000 in
set_option maxRecDepth 100000 in
theorem cmp_Compare_int.calls (a0 : Int) (a1 : Int) (r : Int) (w : World) (h : cmp_Compare_int.f a0 a1 = some r) :
  Calls Try.prog 173 #[.int .i64 a0, .int .i64 a1] w fun e w' => e = .returned (.int .i64 r) ∧ Drawn0 w w' := by
 have H : ((cmp_isNaN_int.f a0).bind fun t150 => ((cmp_isNaN_int.f a1).bind fun t151 => (if t150 = true then (if t151 = true then (some 0) else (some (-1))) else (if t151 = true then (some 1) else (if a0 < a1 then (some (-1)) else (if a0 > a1 then (some 1) else (some 0))))))) = some r := h
 clear h
 replace H := Option.bind_eq_some_iff.mp H
 obtain ⟨t150, A30, H⟩ := H
 replace H : ((cmp_isNaN_int.f a1).bind fun t151 => (if t150 = true then (if t151 = true then (some 0) else (some (-1))) else (if t151 = true then (some 1) else (if a0 < a1 then (some (-1)) else (if a0 > a1 then (some 1) else (some 0)))))) = some r := H
 have A3 := Aside0.mk A30
 clear A30
 replace H := Option.bind_eq_some_iff.mp H
 obtain ⟨t151, A40, H⟩ := H
 replace H : (if t150 = true then (if t151 = true then (some 0) else (some (-1))) else (if t151 = true then (some 1) else (if a0 < a1 then (some (-1)) else (if a0 > a1 then (some 1) else (some 0))))) = some r := H
 have A4 := Aside0.mk A40
 clear A40
 by_cases c5 : t150 = true
 ·
  subst c5
  have H1 : (if t151 = true then (some 0) else (some (-1))) = some r := by rw [if_pos rfl] at H; exact H
  clear H
  have H := H1
  clear H1
  by_cases c6 : t151 = true
  ·
   subst c6
   have H1 : (some 0) = some r := by rw [if_pos rfl] at H; exact H
   clear H
   have H := H1
   clear H1
   obtain rfl := Option.some.inj H
   go_enter Try.func173, Try.ntmps173
   go_wp2_with (first | ((with_reducible refine gate_callee (f := 188) rfl ?_); refine goesL_ (some 8) rfl rfl Try.func188 (by kernel_rfl) rfl #[.int .i64 a0] rfl (by (try simp only [List.map_toArray, List.map_cons, List.map_nil]); first | done | rfl | (simp only [List.length_drop, List.length_take]; rfl)) ?_; (with_reducible refine (cmp_isNaN_int.calls a0 true _ A3.out).mono ?_); rintro e w' ⟨rfl, ⟨nd, rfl⟩⟩; refine ⟨_, rfl, ?_⟩) | ((with_reducible refine gate_callee (f := 188) rfl ?_); refine goesL_ (some 10) rfl rfl Try.func188 (by kernel_rfl) rfl #[.int .i64 a1] rfl (by (try simp only [List.map_toArray, List.map_cons, List.map_nil]); first | done | rfl | (simp only [List.length_drop, List.length_take]; rfl)) ?_; (with_reducible refine (cmp_isNaN_int.calls a1 true _ A4.out).mono ?_); rintro e w' ⟨rfl, ⟨nd, rfl⟩⟩; refine ⟨_, rfl, ?_⟩))
   go_ret
   exact ⟨by first | rfl | (simp; done) | (simp [*]; done), by repeat (first | exact Drawn0.refl _ | apply Drawn0.step)⟩
  ·
   replace c6 := Bool.eq_false_iff.mpr c6
   subst c6
   have H1 : (some (-1)) = some r := by rw [if_neg (show ¬ (false = true) by decide)] at H; exact H
   clear H
   have H := H1
   clear H1
   obtain rfl := Option.some.inj H
   go_enter Try.func173, Try.ntmps173
   go_wp2_with (first | ((with_reducible refine gate_callee (f := 188) rfl ?_); refine goesL_ (some 8) rfl rfl Try.func188 (by kernel_rfl) rfl #[.int .i64 a0] rfl (by (try simp only [List.map_toArray, List.map_cons, List.map_nil]); first | done | rfl | (simp only [List.length_drop, List.length_take]; rfl)) ?_; (with_reducible refine (cmp_isNaN_int.calls a0 true _ A3.out).mono ?_); rintro e w' ⟨rfl, ⟨nd, rfl⟩⟩; refine ⟨_, rfl, ?_⟩) | ((with_reducible refine gate_callee (f := 188) rfl ?_); refine goesL_ (some 10) rfl rfl Try.func188 (by kernel_rfl) rfl #[.int .i64 a1] rfl (by (try simp only [List.map_toArray, List.map_cons, List.map_nil]); first | done | rfl | (simp only [List.length_drop, List.length_take]; rfl)) ?_; (with_reducible refine (cmp_isNaN_int.calls a1 false _ A4.out).mono ?_); rintro e w' ⟨rfl, ⟨nd, rfl⟩⟩; refine ⟨_, rfl, ?_⟩))
   go_ret
   exact ⟨by first | rfl | (simp; done) | (simp [*]; done), by repeat (first | exact Drawn0.refl _ | apply Drawn0.step)⟩
 ·
  replace c5 := Bool.eq_false_iff.mpr c5
  subst c5
  have H1 : (if t151 = true then (some 1) else (if a0 < a1 then (some (-1)) else (if a0 > a1 then (some 1) else (some 0)))) = some r := by rw [if_neg (show ¬ (false = true) by decide)] at H; exact H
  clear H
  have H := H1
  clear H1
  by_cases c7 : t151 = true
  ·
   subst c7
   have H1 : (some 1) = some r := by rw [if_pos rfl] at H; exact H
   clear H
   have H := H1
   clear H1
   obtain rfl := Option.some.inj H
   go_enter Try.func173, Try.ntmps173
   go_wp2_with (first | ((with_reducible refine gate_callee (f := 188) rfl ?_); refine goesL_ (some 8) rfl rfl Try.func188 (by kernel_rfl) rfl #[.int .i64 a0] rfl (by (try simp only [List.map_toArray, List.map_cons, List.map_nil]); first | done | rfl | (simp only [List.length_drop, List.length_take]; rfl)) ?_; (with_reducible refine (cmp_isNaN_int.calls a0 false _ A3.out).mono ?_); rintro e w' ⟨rfl, ⟨nd, rfl⟩⟩; refine ⟨_, rfl, ?_⟩) | ((with_reducible refine gate_callee (f := 188) rfl ?_); refine goesL_ (some 10) rfl rfl Try.func188 (by kernel_rfl) rfl #[.int .i64 a1] rfl (by (try simp only [List.map_toArray, List.map_cons, List.map_nil]); first | done | rfl | (simp only [List.length_drop, List.length_take]; rfl)) ?_; (with_reducible refine (cmp_isNaN_int.calls a1 true _ A4.out).mono ?_); rintro e w' ⟨rfl, ⟨nd, rfl⟩⟩; refine ⟨_, rfl, ?_⟩))
   go_ret
   exact ⟨by first | rfl | (simp; done) | (simp [*]; done), by repeat (first | exact Drawn0.refl _ | apply Drawn0.step)⟩
  ·
   replace c7 := Bool.eq_false_iff.mpr c7
   subst c7
   have H1 : (if a0 < a1 then (some (-1)) else (if a0 > a1 then (some 1) else (some 0))) = some r := by rw [if_neg (show ¬ (false = true) by decide)] at H; exact H
   clear H
   have H := H1
   clear H1
   by_cases c8 : a0 < a1
   ·
    rw [if_pos c8] at H
    have c8b0 : decide (a0 < a1) = true := decide_eq_true c8
    clear c8
    obtain rfl := Option.some.inj H
    go_enter Try.func173, Try.ntmps173
    go_wp2_with (first | ((with_reducible refine gate_callee (f := 188) rfl ?_); refine goesL_ (some 8) rfl rfl Try.func188 (by kernel_rfl) rfl #[.int .i64 a0] rfl (by (try simp only [List.map_toArray, List.map_cons, List.map_nil]); first | done | rfl | (simp only [List.length_drop, List.length_take]; rfl)) ?_; (with_reducible refine (cmp_isNaN_int.calls a0 false _ A3.out).mono ?_); rintro e w' ⟨rfl, ⟨nd, rfl⟩⟩; refine ⟨_, rfl, ?_⟩) | ((with_reducible refine gate_callee (f := 188) rfl ?_); refine goesL_ (some 10) rfl rfl Try.func188 (by kernel_rfl) rfl #[.int .i64 a1] rfl (by (try simp only [List.map_toArray, List.map_cons, List.map_nil]); first | done | rfl | (simp only [List.length_drop, List.length_take]; rfl)) ?_; (with_reducible refine (cmp_isNaN_int.calls a1 false _ A4.out).mono ?_); rintro e w' ⟨rfl, ⟨nd, rfl⟩⟩; refine ⟨_, rfl, ?_⟩))
    go_ret
    exact ⟨by first | rfl | (simp; done) | (simp [*]; done), by repeat (first | exact Drawn0.refl _ | apply Drawn0.step)⟩
   ·
    rw [if_neg c8] at H
    have c8b0 : decide (a0 < a1) = false := decide_eq_false c8
    clear c8
    by_cases c9 : a0 > a1
    ·
     rw [if_pos c9] at H
     have c9b0 : decide (a1 < a0) = true := decide_eq_true c9
     clear c9
     obtain rfl := Option.some.inj H
     go_enter Try.func173, Try.ntmps173
     go_wp2_with (first | ((with_reducible refine gate_callee (f := 188) rfl ?_); refine goesL_ (some 8) rfl rfl Try.func188 (by kernel_rfl) rfl #[.int .i64 a0] rfl (by (try simp only [List.map_toArray, List.map_cons, List.map_nil]); first | done | rfl | (simp only [List.length_drop, List.length_take]; rfl)) ?_; (with_reducible refine (cmp_isNaN_int.calls a0 false _ A3.out).mono ?_); rintro e w' ⟨rfl, ⟨nd, rfl⟩⟩; refine ⟨_, rfl, ?_⟩) | ((with_reducible refine gate_callee (f := 188) rfl ?_); refine goesL_ (some 10) rfl rfl Try.func188 (by kernel_rfl) rfl #[.int .i64 a1] rfl (by (try simp only [List.map_toArray, List.map_cons, List.map_nil]); first | done | rfl | (simp only [List.length_drop, List.length_take]; rfl)) ?_; (with_reducible refine (cmp_isNaN_int.calls a1 false _ A4.out).mono ?_); rintro e w' ⟨rfl, ⟨nd, rfl⟩⟩; refine ⟨_, rfl, ?_⟩))
     go_ret
     exact ⟨by first | rfl | (simp; done) | (simp [*]; done), by repeat (first | exact Drawn0.refl _ | apply Drawn0.step)⟩
    ·
     rw [if_neg c9] at H
     have c9b0 : decide (a1 < a0) = false := decide_eq_false c9
     clear c9
     obtain rfl := Option.some.inj H
     go_enter Try.func173, Try.ntmps173
     go_wp2_with (first | ((with_reducible refine gate_callee (f := 188) rfl ?_); refine goesL_ (some 8) rfl rfl Try.func188 (by kernel_rfl) rfl #[.int .i64 a0] rfl (by (try simp only [List.map_toArray, List.map_cons, List.map_nil]); first | done | rfl | (simp only [List.length_drop, List.length_take]; rfl)) ?_; (with_reducible refine (cmp_isNaN_int.calls a0 false _ A3.out).mono ?_); rintro e w' ⟨rfl, ⟨nd, rfl⟩⟩; refine ⟨_, rfl, ?_⟩) | ((with_reducible refine gate_callee (f := 188) rfl ?_); refine goesL_ (some 10) rfl rfl Try.func188 (by kernel_rfl) rfl #[.int .i64 a1] rfl (by (try simp only [List.map_toArray, List.map_cons, List.map_nil]); first | done | rfl | (simp only [List.length_drop, List.length_take]; rfl)) ?_; (with_reducible refine (cmp_isNaN_int.calls a1 false _ A4.out).mono ?_); rintro e w' ⟨rfl, ⟨nd, rfl⟩⟩; refine ⟨_, rfl, ?_⟩))
     go_ret
     exact ⟨by first | rfl | (simp; done) | (simp [*]; done), by repeat (first | exact Drawn0.refl _ | apply Drawn0.step)⟩
end Go.Proofs.Yteodlmgmmpkpoaa.PS
end
section
namespace Go.Proofs.Yteodlmgmmpkpoaa.PS
open Go.RowKit Go.Proofs.YteodlmgmmpkpoaaW.PrintWords Go.Proofs.YteodlmgmmpkpoaaW.PrintLast Go.Proofs.YteodlmgmmpkpoaaW.PrintMore
attribute [local go_sem] max2_int min2_int max_two min_two max_three min_three max_four min_four   -- for this text's walks alone
set_option linter.unusedVariables false
set_option linter.unusedSimpArgs false
def slices_Compare_int_int.l0 : Nat → List Int → List Int → List Int → Int → Int → Option (Int)
 | 0, _, _, _, _, _ => none
 | k + 1, x0, x1, x9, x10, x11 => if x11 < x10 then (if 0 ≤ x11 then (if x11 < (x9.length : Int) then (if x11 ≥ (x1.length : Int) then (some 1) else (if x11 < (x1.length : Int) then ((cmp_Compare_int.f (rd x9 x11) (rd x1 x11)).bind fun t154 => (if t154 = 0 then (slices_Compare_int_int.l0 k x0 x1 x9 x10 (wrap64 (x11 + 1))) else (some t154))) else (none))) else (none)) else (none)) else (if (x0.length : Int) < (x1.length : Int) then (some (-1)) else (some 0))
def slices_Compare_int_int.f (k : Nat) (l0 : List Int) (l1 : List Int) : Option (Int) := slices_Compare_int_int.l0 k l0 l1 l0 (l0.length : Int) 0
set_option maxHeartbeats 8000000 in
set_option maxRecDepth 100000 in
theorem slices_Compare_int_int.calls (k : Nat) (A0 : Option Addr) (c0 : Nat) (l0 : List Int) (A1 : Option Addr) (c1 : Nat) (l1 : List Int) (r : Int) (w : World) (hr0 : Kd.C (Kd.int .i64) w A0 l0.length l0) (hc0 : l0.length ≤ c0) (hr1 : Kd.C (Kd.int .i64) w A1 l1.length l1) (hc1 : l1.length ≤ c1) (h : slices_Compare_int_int.f k l0 l1 = some r) :
  Calls Try.prog 140 #[.slice A0 l0.length c0, .slice A1 l1.length c1] w fun e w' => e = .returned (.int .i64 r) ∧ Drawn0 w w' := by
 have HR0 := Aside0.mk hr0
 have HC0 := Aside0.mk hc0
 clear hr0 hc0
 have HR1 := Aside0.mk hr1
 have HC1 := Aside0.mk hc1
 clear hr1 hc1
 have H : (slices_Compare_int_int.l0 k l0 l1 l0 (l0.length : Int) 0) = some r := h
 clear h
 have H' := Aside0.mk H
 clear H
 go_enter Try.func140, Try.ntmps140
 go_wp2
 go_loopg [11] k (fun kq v11 w' => ∃ (x11_1 : Int), v11 = .int .i64 x11_1 ∧ Aside0 (slices_Compare_int_int.l0 kq l0 l1 l0 (l0.length : Int) x11_1 = some r) ∧ Aside0 (kq ≤ k) ∧ Drawn0 w w')
 case atStart => exact ⟨(0), (by first | rfl | (simp; done) | (simp [*]; done)), H', ⟨Nat.le_refl _⟩, by repeat (first | exact Drawn0.refl _ | apply Drawn0.step)⟩
 case round =>
  clear H'
  try clear c1
  try clear p2
  obtain ⟨x11_1, rfl, HA, HK1, ⟨m1, rfl⟩⟩ := hrel
  cases gk with
  | zero => exact absurd HA.out (by simp [slices_Compare_int_int.l0])
  | succ k1 =>
   have H := HA.out
   clear HA
   simp only [slices_Compare_int_int.l0] at H
   by_cases c3 : x11_1 < (l0.length : Int)
   ·
    rw [if_pos c3] at H
    have c3b0 : decide (x11_1 < (l0.length : Int)) = true := decide_eq_true c3
    clear c3
    by_cases c4 : 0 ≤ x11_1
    ·
     rw [if_pos c4] at H
     have c4b0 : decide (0 ≤ x11_1) = true := decide_eq_true c4
     clear c4
     by_cases c5 : x11_1 < (l0.length : Int)
     ·
      rw [if_pos c5] at H
      have c5b0 : decide (x11_1 < (l0.length : Int)) = true := decide_eq_true c5
      clear c5
      by_cases c6 : x11_1 ≥ (l1.length : Int)
      ·
       rw [if_pos c6] at H
       have c6b0 : decide ((l1.length : Int) ≤ x11_1) = true := decide_eq_true c6
       clear c6
       obtain rfl := Option.some.inj H
       have p152 : 0 ≤ (x11_1 : Int) := of_decide_eq_true (by first | (with_reducible assumption) | assumption)
       have q152 : x11_1 < (l0.length : Int) := of_decide_eq_true (by first | (with_reducible assumption) | assumption)
       obtain ⟨ad152, e152, hx152_0⟩ := Kd.at_int HR0.out x11_1 p152 q152
       cases e152
       replace p152 := eq_true p152
       replace q152 := eq_true q152
       go_wp2
       go_ret
       exact ⟨by first | rfl | (simp; done) | (simp [*]; done), by repeat (first | exact Drawn0.refl _ | apply Drawn0.step)⟩
      ·
       rw [if_neg c6] at H
       have c6b0 : decide ((l1.length : Int) ≤ x11_1) = false := decide_eq_false c6
       clear c6
       by_cases c7 : x11_1 < (l1.length : Int)
       ·
        rw [if_pos c7] at H
        have c7b0 : decide (x11_1 < (l1.length : Int)) = true := decide_eq_true c7
        clear c7
        replace H := Option.bind_eq_some_iff.mp H
        obtain ⟨t154, A80, H⟩ := H
        replace H : (if t154 = 0 then (slices_Compare_int_int.l0 k1 l0 l1 l0 (l0.length : Int) (wrap64 (x11_1 + 1))) else (some t154)) = some r := H
        have A8 := Aside0.mk A80
        clear A80
        by_cases c9 : t154 = 0
        ·
         rw [if_pos c9] at H
         have c9b0 : (t154 == 0) = true := beq_iff_eq.mpr c9
         have c9b1 : (t154 != 0) = false := bne_eq_false_iff_eq.mpr c9
         clear c9
         have H' := Aside0.mk H
         clear H
         have p152 : 0 ≤ (x11_1 : Int) := of_decide_eq_true (by first | (with_reducible assumption) | assumption)
         have q152 : x11_1 < (l0.length : Int) := of_decide_eq_true (by first | (with_reducible assumption) | assumption)
         obtain ⟨ad152, e152, hx152_0⟩ := Kd.at_int HR0.out x11_1 p152 q152
         cases e152
         replace p152 := eq_true p152
         replace q152 := eq_true q152
         have p153 : 0 ≤ (x11_1 : Int) := of_decide_eq_true (by first | (with_reducible assumption) | assumption)
         have q153 : x11_1 < (l1.length : Int) := of_decide_eq_true (by first | (with_reducible assumption) | assumption)
         obtain ⟨ad153, e153, hx153_0⟩ := Kd.at_int HR1.out x11_1 p153 q153
         cases e153
         replace p153 := eq_true p153
         replace q153 := eq_true q153
         go_wp2_with (first | ((with_reducible refine gate_callee (f := 173) rfl ?_); refine goesL_ (some 26) rfl rfl Try.func173 (by kernel_rfl) rfl #[.int .i64 (rd l0 x11_1), .int .i64 (rd l1 x11_1)] rfl (by (try simp only [List.map_toArray, List.map_cons, List.map_nil]); first | done | rfl | (simp only [List.length_drop, List.length_take]; rfl)) ?_; (with_reducible refine (cmp_Compare_int.calls (rd l0 x11_1) (rd l1 x11_1) t154 _ A8.out).mono ?_); rintro e w' ⟨rfl, ⟨nd, rfl⟩⟩; refine ⟨_, rfl, ?_⟩))
         go_roundg k1
         case measure => have := HK1.out; omega
         case rel => exact ⟨(wrap64 (x11_1 + 1)), (by first | rfl | (simp; done) | (simp [*]; done)), H', ⟨by have := HK1.out; omega⟩, by repeat (first | exact Drawn0.refl _ | apply Drawn0.step)⟩
        ·
         rw [if_neg c9] at H
         have c9b0 : (t154 == 0) = false := beq_eq_false_iff_ne.mpr c9
         have c9b1 : (t154 != 0) = true := bne_iff_ne.mpr c9
         obtain rfl := Option.some.inj H
         have p152 : 0 ≤ (x11_1 : Int) := of_decide_eq_true (by first | (with_reducible assumption) | assumption)
         have q152 : x11_1 < (l0.length : Int) := of_decide_eq_true (by first | (with_reducible assumption) | assumption)
         obtain ⟨ad152, e152, hx152_0⟩ := Kd.at_int HR0.out x11_1 p152 q152
         cases e152
         replace p152 := eq_true p152
         replace q152 := eq_true q152
         have p153 : 0 ≤ (x11_1 : Int) := of_decide_eq_true (by first | (with_reducible assumption) | assumption)
         have q153 : x11_1 < (l1.length : Int) := of_decide_eq_true (by first | (with_reducible assumption) | assumption)
         obtain ⟨ad153, e153, hx153_0⟩ := Kd.at_int HR1.out x11_1 p153 q153
         cases e153
         replace p153 := eq_true p153
         replace q153 := eq_true q153
         go_wp2_with (first | ((with_reducible refine gate_callee (f := 173) rfl ?_); refine goesL_ (some 26) rfl rfl Try.func173 (by kernel_rfl) rfl #[.int .i64 (rd l0 x11_1), .int .i64 (rd l1 x11_1)] rfl (by (try simp only [List.map_toArray, List.map_cons, List.map_nil]); first | done | rfl | (simp only [List.length_drop, List.length_take]; rfl)) ?_; (with_reducible refine (cmp_Compare_int.calls (rd l0 x11_1) (rd l1 x11_1) t154 _ A8.out).mono ?_); rintro e w' ⟨rfl, ⟨nd, rfl⟩⟩; refine ⟨_, rfl, ?_⟩))
         go_ret
         exact ⟨by first | rfl | (simp; done) | (simp [*]; done), by repeat (first | exact Drawn0.refl _ | apply Drawn0.step)⟩
       ·
        rw [if_neg c7] at H
        exact absurd H (by simp)
     ·
      rw [if_neg c5] at H
      exact absurd H (by simp)
    ·
     rw [if_neg c4] at H
     exact absurd H (by simp)
   ·
    rw [if_neg c3] at H
    have c3b0 : decide (x11_1 < (l0.length : Int)) = false := decide_eq_false c3
    clear c3
    by_cases c10 : (l0.length : Int) < (l1.length : Int)
    ·
     rw [if_pos c10] at H
     have c10b0 : decide ((l0.length : Int) < (l1.length : Int)) = true := decide_eq_true c10
     have c10b1 : decide (l0.length < l1.length) = true := decide_eq_true (Int.ofNat_lt.mp c10)
     clear c10
     obtain rfl := Option.some.inj H
     go_wp2
     go_ret
     exact ⟨by first | rfl | (simp; done) | (simp [*]; done), by repeat (first | exact Drawn0.refl _ | apply Drawn0.step)⟩
    ·
     rw [if_neg c10] at H
     have c10b0 : decide ((l0.length : Int) < (l1.length : Int)) = false := decide_eq_false c10
     have c10b1 : decide (l0.length < l1.length) = false := decide_eq_false (fun h => c10 (Int.ofNat_lt.mpr h))
     clear c10
     obtain rfl := Option.some.inj H
     go_wp2
     go_ret
     exact ⟨by first | rfl | (simp; done) | (simp [*]; done), by repeat (first | exact Drawn0.refl _ | apply Drawn0.step)⟩
end Go.Proofs.Yteodlmgmmpkpoaa.PS
end
section
namespace Go.Proofs.Yteodlmgmmpkpoaa.PS
open Go.RowKit Go.Proofs.YteodlmgmmpkpoaaW.PrintWords Go.Proofs.YteodlmgmmpkpoaaW.PrintLast Go.Proofs.YteodlmgmmpkpoaaW.PrintMore
set_option linter.unusedVariables false
set_option linter.unusedSimpArgs false
theorem corner_loop (l : List S27) (hl : l.length ≤ 1000) : ∀ (k i : Nat) (p : List Int), i ≤ l.length → p.length = i → l.length - i < k → spans_corner.l0 k p l (l.length : Int) i = some (p ++ lowsT (l.drop i))
  | 0, i, p, _, _, h => absurd h (Nat.not_lt_zero _)
  | k + 1, i, p, hi, hp, hk => by
    simp only [spans_corner.l0]
    by_cases hlt : i < l.length
    · rw [if_pos (by omega), if_pos (by omega), if_pos (by omega), if_pos (by omega), rdT27_nat, step64 i (by omega), corner_loop l hl k (i + 1) _ (by omega) (by simp [hp]) (by omega), drop_stepG z27 l i hlt]
      simp [lowsT]
    · rw [if_neg (by omega), List.drop_of_length_le (by omega)]
      simp [lowsT]
theorem corner_total (l : List S27) (hl : l.length ≤ 1000) (k : Nat) (hk : l.length < k) : spans_corner.f k l = some (lowsT l) := by
  unfold spans_corner.f
  have := corner_loop l hl k 0 [] (Nat.zero_le _) rfl (by omega)
  rwa [List.drop_zero, List.nil_append] at this
theorem cmpI_total (a b : Int) : cmp_Compare_int.f a b = some (if a < b then -1 else if b < a then 1 else 0) := by
  unfold cmp_Compare_int.f cmp_isNaN_int.f
  simp only [Option.bind_some, bne_self_eq_false, Bool.false_eq_true, if_false]
  split
  · rfl
  · split <;> rfl
theorem cmpL_loop (p q : List Int) (hl : p.length ≤ 1000) (hq : q.length = p.length) : ∀ (k i : Nat), i ≤ p.length → p.length - i < k → ∃ c, slices_Compare_int_int.l0 k p q p (p.length : Int) i = some c ∧ (c < 0 ↔ befB (p.drop i) (q.drop i) = true)
  | 0, i, _, h => absurd h (Nat.not_lt_zero _)
  | k + 1, i, hi, hk => by
    simp only [slices_Compare_int_int.l0]
    by_cases hlt : i < p.length
    · have e1 : rd p (i : Int) = p.getD i 0 := by rw [rd_nat]; rfl
      have e2 : rd q (i : Int) = q.getD i 0 := by rw [rd_nat]; rfl
      rw [if_pos (by omega), if_pos (by omega), if_pos (by omega), if_neg (by omega), if_pos (by omega), e1, e2, cmpI_total, Option.bind_some, drop_stepG (0 : Int) p i hlt, drop_stepG (0 : Int) q i (by omega)]
      simp only [befB]
      by_cases h1 : p.getD i 0 < q.getD i 0
      · rw [if_pos h1, if_neg (by decide), if_neg (by omega)]
        exact ⟨-1, rfl, fun _ => decide_eq_true h1, fun _ => by decide⟩
      · by_cases h2 : q.getD i 0 < p.getD i 0
        · rw [if_neg h1, if_pos h2, if_neg (by decide), if_neg (by omega)]
          exact ⟨1, rfl, fun h => absurd h (by decide), fun h => absurd (of_decide_eq_true h) h1⟩
        · rw [if_neg h1, if_neg h2, if_pos rfl, if_pos (by omega), step64 i (by omega)]
          exact cmpL_loop p q hl hq k (i + 1) (by omega) (by omega)
    · rw [if_neg (by omega), if_neg (by omega), List.drop_of_length_le (by omega), List.drop_of_length_le (by omega)]
      exact ⟨0, rfl, by simp [befB]⟩
theorem cmpL_total (p q : List Int) (hl : p.length ≤ 1000) (hq : q.length = p.length) (k : Nat) (hk : p.length < k) : ∃ c, slices_Compare_int_int.f k p q = some c ∧ (c < 0 ↔ befB p q = true) := by
  unfold slices_Compare_int_int.f
  have := cmpL_loop p q hl hq k 0 (Nat.zero_le _) (by omega)
  rwa [List.drop_zero, List.drop_zero] at this
theorem firstT_snoc (L : List (List Int)) (q : List Int) (h : L ≠ []) : firstT (L ++ [q]) = if befB q (firstT L) then q else firstT L := by
  cases L with
  | nil => exact absurd rfl h
  | cons p l =>
    show (l ++ [q]).foldl _ p = _
    rw [List.foldl_append]
    rfl
theorem firstT_mem : ∀ (L : List (List Int)), L ≠ [] → firstT L ∈ L
  | p :: l, _ => by
    have key : ∀ (l : List (List Int)) (m : List Int), l.foldl (fun m q => if befB q m then q else m) m ∈ m :: l := by
      intro l
      induction l with
      | nil => intro m; simp
      | cons a l ih =>
        intro m
        rw [List.foldl_cons]
        have := ih (if befB a m then a else m)
        split at this
        · rcases List.mem_cons.1 this with h | h
          · rename_i hb; rw [if_pos hb, h]; simp
          · rename_i hb; rw [if_pos hb]; exact List.mem_cons_of_mem _ (List.mem_cons_of_mem _ h)
        · rcases List.mem_cons.1 this with h | h
          · rename_i hb; rw [if_neg hb, h]; simp
          · rename_i hb; rw [if_neg hb]; exact List.mem_cons_of_mem _ (List.mem_cons_of_mem _ h)
    exact key l p
  | [], h => absurd rfl h
end Go.Proofs.Yteodlmgmmpkpoaa.PS
end
section
namespace Go.Proofs.Yteodlmgmmpkpoaa.PS
open Go.RowKit Go.Proofs.YteodlmgmmpkpoaaW.PrintWords Go.Proofs.YteodlmgmmpkpoaaW.PrintLast Go.Proofs.YteodlmgmmpkpoaaW.PrintMore
attribute [local go_sem] max2_int min2_int max_two min_two max_three min_three max_four min_four   -- for this text's walks alone
set_option linter.unusedVariables false
set_option linter.unusedSimpArgs false
mutual
def spans_check.l0 : Nat → List (List (S27)) → List (List (S27)) → Int → Int → Option (Int)
 | 0, _, _, _, _ => none
 | k + 1, x0, x8, x9, x10 => if x10 < x9 then (if 0 ≤ x10 then (if x10 < (x8.length : Int) then ((spans_Check.f (rd_L2 x8 x10)).bind fun t161 => (if t161 = 0 then (spans_check.l0 k x0 x8 x9 (wrap64 (x10 + 1))) else (some t161))) else (none)) else (none)) else (spans_check.l1 k x0 x0 (x0.length : Int) 0)
def spans_check.l1 : Nat → List (List (S27)) → List (List (S27)) → Int → Int → Option (Int)
 | 0, _, _, _, _ => none
 | k + 1, x0, x20, x21, x22 => if x22 < x21 then (if 0 ≤ x22 then (if x22 < (x20.length : Int) then (if 0 < (x0.length : Int) then (if ((rd_L2 x20 x22).length : Int) = ((rd_L2 x0 0).length : Int) then (spans_check.l1 k x0 x20 x21 (wrap64 (x22 + 1))) else (some 1)) else (none)) else (none)) else (none)) else (some 0)
end
def spans_check.f (k : Nat) (l0 : List (List (S27))) : Option (Int) := spans_check.l0 k l0 l0 (l0.length : Int) 0
set_option maxHeartbeats 8000000 in
set_option maxRecDepth 100000 in
theorem spans_check.calls (k : Nat) (A0 : Option Addr) (c0 : Nat) (l0 : List (List (S27))) (r : Int) (w : World) (hr0 : Kd.C (Kd.slice 27 k27) w A0 l0.length l0) (hc0 : l0.length ≤ c0) (h : spans_check.f k l0 = some r) :
  Calls Try.prog 124 #[.slice A0 l0.length c0] w fun e w' => e = .returned (.int .i64 r) ∧ Below w.heap.size w w' := by
 have HR0 := Aside0.mk hr0
 have HC0 := Aside0.mk hc0
 clear hr0 hc0
 have HB := Aside0.mk (Below.refl w.heap.size w)
 have H : (spans_check.l0 k l0 l0 (l0.length : Int) 0) = some r := h
 clear h
 have H' := Aside0.mk H
 clear H
 go_enter Try.func124, Try.ntmps124
 go_wp2
 go_loopg [10] k (fun kq v10 w' => ∃ (x10_1 : Int), v10 = .int .i64 x10_1 ∧ Aside0 (spans_check.l0 kq l0 l0 (l0.length : Int) x10_1 = some r) ∧ Aside0 (kq ≤ k) ∧ Aside0 (Below w.heap.size w w'))
 case atStart => exact ⟨(0), (by first | rfl | (simp; done) | (simp [*]; done)), H', ⟨Nat.le_refl _⟩, ⟨bl_ HB.out⟩⟩
 case round =>
  clear H'
  try clear c1
  obtain ⟨x10_1, rfl, HA, HK1, HB⟩ := hrel
  cases gk with
  | zero => exact absurd HA.out (by simp [spans_check.l0])
  | succ k1 =>
   have H := HA.out
   clear HA
   simp only [spans_check.l0] at H
   by_cases c2 : x10_1 < (l0.length : Int)
   ·
    rw [if_pos c2] at H
    have c2b0 : decide (x10_1 < (l0.length : Int)) = true := decide_eq_true c2
    clear c2
    by_cases c3 : 0 ≤ x10_1
    ·
     rw [if_pos c3] at H
     have c3b0 : decide (0 ≤ x10_1) = true := decide_eq_true c3
     clear c3
     by_cases c4 : x10_1 < (l0.length : Int)
     ·
      rw [if_pos c4] at H
      have c4b0 : decide (x10_1 < (l0.length : Int)) = true := decide_eq_true c4
      clear c4
      replace H := Option.bind_eq_some_iff.mp H
      obtain ⟨t161, A50, H⟩ := H
      replace H : (if t161 = 0 then (spans_check.l0 k1 l0 l0 (l0.length : Int) (wrap64 (x10_1 + 1))) else (some t161)) = some r := H
      have A5 := Aside0.mk A50
      clear A50
      by_cases c6 : t161 = 0
      ·
       rw [if_pos c6] at H
       have c6b0 : (t161 == 0) = true := beq_iff_eq.mpr c6
       have c6b1 : (t161 != 0) = false := bne_eq_false_iff_eq.mpr c6
       clear c6
       have H' := Aside0.mk H
       clear H
       have p160 : 0 ≤ (x10_1 : Int) := of_decide_eq_true (by first | (with_reducible assumption) | assumption)
       have q160 : x10_1 < (l0.length : Int) := of_decide_eq_true (by first | (with_reducible assumption) | assumption)
       obtain ⟨ad160, A160_0, c160_0, e160, hx160_0, hl160_0, hi160_0⟩ := at_L2 HR0.out x10_1 p160 q160
       cases e160
       replace hx160_0 := (HB.out.cell (World.block_lt_of_cell? w _ hx160_0)).trans hx160_0
       have HR160_0 := Aside0.mk hi160_0
       have HC160_0 := Aside0.mk hl160_0
       clear hi160_0 hl160_0
       replace p160 := eq_true p160
       replace q160 := eq_true q160
       go_wp2_with (first | ((with_reducible refine gate_callee (f := 26) rfl ?_); refine goesL_ (some 15) rfl rfl Try.func26 (by kernel_rfl) rfl #[.slice A160_0 (rd_L2 l0 x10_1).length c160_0] rfl (by (try simp only [List.map_toArray, List.map_cons, List.map_nil]); first | done | rfl | (simp only [List.length_drop, List.length_take]; rfl)) ?_; (with_reducible refine (spans_Check.calls _ _ (rd_L2 l0 x10_1) t161 _ ?side1 ?side2 A5.out).mono ?_); (case side1 => exact cr_ (Kd.C_below HR160_0.out HB.out)); (case side2 => exact HC160_0.out); rintro e w7 ⟨rfl, hb⟩; refine ⟨_, rfl, ?_⟩; have n0_ := Aside0.mk (below_step (bl_ HB.out) hb); clear HB; have HB := n0_; clear n0_; (try clear hb); (try clear hb2); (try clear hk); (try clear hi)))
       go_roundg k1
       case measure => have := HK1.out; omega
       case rel => exact ⟨(wrap64 (x10_1 + 1)), (by first | rfl | (simp; done) | (simp [*]; done)), H', ⟨by have := HK1.out; omega⟩, ⟨bl_ HB.out⟩⟩
      ·
       rw [if_neg c6] at H
       have c6b0 : (t161 == 0) = false := beq_eq_false_iff_ne.mpr c6
       have c6b1 : (t161 != 0) = true := bne_iff_ne.mpr c6
       obtain rfl := Option.some.inj H
       have p160 : 0 ≤ (x10_1 : Int) := of_decide_eq_true (by first | (with_reducible assumption) | assumption)
       have q160 : x10_1 < (l0.length : Int) := of_decide_eq_true (by first | (with_reducible assumption) | assumption)
       obtain ⟨ad160, A160_0, c160_0, e160, hx160_0, hl160_0, hi160_0⟩ := at_L2 HR0.out x10_1 p160 q160
       cases e160
       replace hx160_0 := (HB.out.cell (World.block_lt_of_cell? w _ hx160_0)).trans hx160_0
       have HR160_0 := Aside0.mk hi160_0
       have HC160_0 := Aside0.mk hl160_0
       clear hi160_0 hl160_0
       replace p160 := eq_true p160
       replace q160 := eq_true q160
       go_wp2_with (first | ((with_reducible refine gate_callee (f := 26) rfl ?_); refine goesL_ (some 15) rfl rfl Try.func26 (by kernel_rfl) rfl #[.slice A160_0 (rd_L2 l0 x10_1).length c160_0] rfl (by (try simp only [List.map_toArray, List.map_cons, List.map_nil]); first | done | rfl | (simp only [List.length_drop, List.length_take]; rfl)) ?_; (with_reducible refine (spans_Check.calls _ _ (rd_L2 l0 x10_1) t161 _ ?side1 ?side2 A5.out).mono ?_); (case side1 => exact cr_ (Kd.C_below HR160_0.out HB.out)); (case side2 => exact HC160_0.out); rintro e w8 ⟨rfl, hb⟩; refine ⟨_, rfl, ?_⟩; have n0_ := Aside0.mk (below_step (bl_ HB.out) hb); clear HB; have HB := n0_; clear n0_; (try clear hb); (try clear hb2); (try clear hk); (try clear hi)))
       go_ret
       exact ⟨by first | rfl | (simp [errW_none, errW_some] <;> rfl) | (simp [*, errW_none, errW_some] <;> rfl), bl_ HB.out⟩
     ·
      rw [if_neg c4] at H
      exact absurd H (by simp)
    ·
     rw [if_neg c3] at H
     exact absurd H (by simp)
   ·
    rw [if_neg c2] at H
    have c2b0 : decide (x10_1 < (l0.length : Int)) = false := decide_eq_false c2
    clear c2
    have H' := Aside0.mk H
    clear H
    go_wp2
    go_loopg [22] k1 (fun kq v22 w' => ∃ (x22_2 : Int), v22 = .int .i64 x22_2 ∧ Aside0 (spans_check.l1 kq l0 l0 (l0.length : Int) x22_2 = some r) ∧ Aside0 (kq ≤ k1) ∧ Aside0 (Below w.heap.size w w'))
    case atStart => exact ⟨(0), (by first | rfl | (simp; done) | (simp [*]; done)), H', ⟨Nat.le_refl _⟩, ⟨bl_ HB.out⟩⟩
    case round =>
     clear H'
     try clear c1
     try clear p1
     try clear q1
     try clear hx1
     try clear c2
     try clear c2b0
     try clear p2
     try clear c3
     try clear c3b0
     try clear c4
     try clear c4b0
     try clear c6
     try clear c6b0
     try clear c6b1
     try clear p6
     try clear hx160_0
     try clear p160
     try clear q160
     obtain ⟨x22_2, rfl, HA, HK2, HB⟩ := hrel
     cases gk with
     | zero => exact absurd HA.out (by simp [spans_check.l1])
     | succ k2 =>
      have H := HA.out
      clear HA
      simp only [spans_check.l1] at H
      by_cases c9 : x22_2 < (l0.length : Int)
      ·
       rw [if_pos c9] at H
       have c9b0 : decide (x22_2 < (l0.length : Int)) = true := decide_eq_true c9
       clear c9
       by_cases c10 : 0 ≤ x22_2
       ·
        rw [if_pos c10] at H
        have c10b0 : decide (0 ≤ x22_2) = true := decide_eq_true c10
        clear c10
        by_cases c11 : x22_2 < (l0.length : Int)
        ·
         rw [if_pos c11] at H
         have c11b0 : decide (x22_2 < (l0.length : Int)) = true := decide_eq_true c11
         clear c11
         by_cases c12 : 0 < (l0.length : Int)
         ·
          rw [if_pos c12] at H
          have c12b0 : decide (0 < (l0.length : Int)) = true := decide_eq_true c12
          have c12b1 : decide (0 < l0.length) = true := decide_eq_true (by omega)
          clear c12
          by_cases c13 : ((rd_L2 l0 x22_2).length : Int) = ((rd_L2 l0 0).length : Int)
          ·
           rw [if_pos c13] at H
           have c13b0 : (((rd_L2 l0 x22_2).length : Int) == ((rd_L2 l0 0).length : Int)) = true := beq_iff_eq.mpr c13
           have c13b1 : (((rd_L2 l0 x22_2).length : Int) != ((rd_L2 l0 0).length : Int)) = false := bne_eq_false_iff_eq.mpr c13
           have c13b2 : ((rd_L2 l0 x22_2).length == (rd_L2 l0 0).length) = true := by first | simpa using c13 | (simp at c13 ⊢; omega)
           clear c13
           have H' := Aside0.mk H
           clear H
           have p162 : 0 ≤ (x22_2 : Int) := of_decide_eq_true (by first | (with_reducible assumption) | assumption)
           have q162 : x22_2 < (l0.length : Int) := of_decide_eq_true (by first | (with_reducible assumption) | assumption)
           obtain ⟨ad162, A162_0, c162_0, e162, hx162_0, hl162_0, hi162_0⟩ := at_L2 HR0.out x22_2 p162 q162
           cases e162
           replace hx162_0 := (HB.out.cell (World.block_lt_of_cell? w _ hx162_0)).trans hx162_0
           have HR162_0 := Aside0.mk hi162_0
           have HC162_0 := Aside0.mk hl162_0
           clear hi162_0 hl162_0
           replace p162 := eq_true p162
           replace q162 := eq_true q162
           have p163 : 0 ≤ (0 : Int) := (by omega)
           have q163 : 0 < (l0.length : Int) := of_decide_eq_true (by first | (with_reducible assumption) | assumption)
           obtain ⟨ad163, A163_0, c163_0, e163, hx163_0, hl163_0, hi163_0⟩ := at_L2 HR0.out 0 p163 q163
           obtain rfl : ad162 = ad163 := (by injection e163)
           have qi163 : (0 < l0.length) = True := eq_true (by omega)
           (try rw [show ((0 : Int)).toNat = 0 from rfl] at hx163_0)
           (try rw [Addr.add_zero'] at hx163_0)
           replace hx163_0 := (HB.out.cell (World.block_lt_of_cell? w _ hx163_0)).trans hx163_0
           have HR163_0 := Aside0.mk hi163_0
           have HC163_0 := Aside0.mk hl163_0
           clear hi163_0 hl163_0
           replace p163 := eq_true p163
           replace q163 := eq_true q163
           go_wp2
           go_roundg k2
           case measure => have := HK1.out; have := HK2.out; omega
           case rel => exact ⟨(wrap64 (x22_2 + 1)), (by first | rfl | (simp; done) | (simp [*]; done)), H', ⟨by have := HK1.out; have := HK2.out; omega⟩, ⟨bl_ HB.out⟩⟩
          ·
           rw [if_neg c13] at H
           have c13b0 : (((rd_L2 l0 x22_2).length : Int) == ((rd_L2 l0 0).length : Int)) = false := beq_eq_false_iff_ne.mpr c13
           have c13b1 : (((rd_L2 l0 x22_2).length : Int) != ((rd_L2 l0 0).length : Int)) = true := bne_iff_ne.mpr c13
           have c13b2 : ((rd_L2 l0 x22_2).length == (rd_L2 l0 0).length) = false := by first | simpa using c13 | (simp at c13 ⊢; omega)
           obtain rfl := Option.some.inj H
           have p162 : 0 ≤ (x22_2 : Int) := of_decide_eq_true (by first | (with_reducible assumption) | assumption)
           have q162 : x22_2 < (l0.length : Int) := of_decide_eq_true (by first | (with_reducible assumption) | assumption)
           obtain ⟨ad162, A162_0, c162_0, e162, hx162_0, hl162_0, hi162_0⟩ := at_L2 HR0.out x22_2 p162 q162
           cases e162
           replace hx162_0 := (HB.out.cell (World.block_lt_of_cell? w _ hx162_0)).trans hx162_0
           have HR162_0 := Aside0.mk hi162_0
           have HC162_0 := Aside0.mk hl162_0
           clear hi162_0 hl162_0
           replace p162 := eq_true p162
           replace q162 := eq_true q162
           have p163 : 0 ≤ (0 : Int) := (by omega)
           have q163 : 0 < (l0.length : Int) := of_decide_eq_true (by first | (with_reducible assumption) | assumption)
           obtain ⟨ad163, A163_0, c163_0, e163, hx163_0, hl163_0, hi163_0⟩ := at_L2 HR0.out 0 p163 q163
           obtain rfl : ad162 = ad163 := (by injection e163)
           have qi163 : (0 < l0.length) = True := eq_true (by omega)
           (try rw [show ((0 : Int)).toNat = 0 from rfl] at hx163_0)
           (try rw [Addr.add_zero'] at hx163_0)
           replace hx163_0 := (HB.out.cell (World.block_lt_of_cell? w _ hx163_0)).trans hx163_0
           have HR163_0 := Aside0.mk hi163_0
           have HC163_0 := Aside0.mk hl163_0
           clear hi163_0 hl163_0
           replace p163 := eq_true p163
           replace q163 := eq_true q163
           go_wp2
           go_ret
           exact ⟨by first | rfl | (simp [errW_none, errW_some] <;> rfl) | (simp [*, errW_none, errW_some] <;> rfl), bl_ HB.out⟩
         ·
          rw [if_neg c12] at H
          exact absurd H (by simp)
        ·
         rw [if_neg c11] at H
         exact absurd H (by simp)
       ·
        rw [if_neg c10] at H
        exact absurd H (by simp)
      ·
       rw [if_neg c9] at H
       have c9b0 : decide (x22_2 < (l0.length : Int)) = false := decide_eq_false c9
       clear c9
       obtain rfl := Option.some.inj H
       go_wp2
       go_ret
       exact ⟨by first | rfl | (simp [errW_none, errW_some] <;> rfl) | (simp [*, errW_none, errW_some] <;> rfl), bl_ HB.out⟩
end Go.Proofs.Yteodlmgmmpkpoaa.PS
end
section
namespace Go.Proofs.Yteodlmgmmpkpoaa.PS
open Go.RowKit Go.Shelf Go.Proofs.YteodlmgmmpkpoaaW.PrintWords Go.Proofs.YteodlmgmmpkpoaaW.PrintLast Go.Proofs.YteodlmgmmpkpoaaW.PrintMore
set_option linter.unusedVariables false
set_option linter.unusedSimpArgs false
attribute [local go_sem] Oper.semAt_some
theorem check1_loop (l : List (List S27)) (hl : l.length ≤ 1000) : ∀ (k i : Nat), i ≤ l.length → l.length - i < k →
    spans_check.l1 k l l (l.length : Int) i = some (if (l.drop i).all (fun b => b.length == (l.headD []).length) then 0 else 1)
  | 0, i, _, h => absurd h (Nat.not_lt_zero _)
  | k + 1, i, hi, hk => by
    simp only [spans_check.l1]
    by_cases hlt : i < l.length
    · have h0 : rd_L2 l 0 = l.headD [] := by
        cases l with
        | nil => simp at hlt
        | cons a l => rfl
      rw [if_pos (by omega), if_pos (by omega), if_pos (by omega), if_pos (by omega), h0, show rd_L2 l (i : Int) = l.getD i [] by unfold rd_L2; rw [Int.toNat_natCast], drop_stepG [] l i hlt, List.all_cons]
      by_cases hc : (l.getD i []).length = (l.headD []).length
      · rw [if_pos (by omega), step64 i (by omega), check1_loop l hl k (i + 1) (by omega) (by omega), beq_iff_eq.2 hc, Bool.true_and]
      · rw [if_neg (by omega), show ((l.getD i []).length == (l.headD []).length) = false from beq_eq_false_iff_ne.2 hc]
        rfl
    · rw [if_neg (by omega), List.drop_of_length_le (by omega)]
      rfl
theorem check0_loop (l : List (List S27)) (hl : l.length ≤ 1000) : ∀ (k i : Nat), i ≤ l.length → (l.length - i) + l.length + 2 ≤ k →
    spans_check.l0 k l l (l.length : Int) i = some (if (l.drop i).all boxB then (if sameB (l.headD []).length l then 0 else 1) else 10)
  | 0, i, _, h => absurd h (by omega)
  | k + 1, i, hi, hk => by
    simp only [spans_check.l0]
    by_cases hlt : i < l.length
    · rw [if_pos (by omega), if_pos (by omega), if_pos (by omega), show rd_L2 l (i : Int) = l.getD i [] by unfold rd_L2; rw [Int.toNat_natCast], check_total, Option.bind_some, drop_stepG [] l i hlt, List.all_cons]
      rcases Bool.eq_false_or_eq_true (boxB (l.getD i [])) with hb | hb
      · rw [hb, if_pos rfl, if_pos rfl, step64 i (by omega), check0_loop l hl k (i + 1) (by omega) (by omega), Bool.true_and]
      · rw [hb, if_neg (show ¬ (false = true) by decide), if_neg (show ¬ ((10 : Int) = 0) by decide), Bool.false_and, if_neg (show ¬ (false = true) by decide)]
    · rw [if_neg (by omega), List.drop_of_length_le (by omega), List.all_nil, if_pos rfl]
      have := check1_loop l hl k 0 (Nat.zero_le _) (by omega)
      rw [List.drop_zero] at this
      exact this
theorem checkL_total (l : List (List S27)) (hl : l.length ≤ 30) (k : Nat) (hk : 100 ≤ k) : spans_check.f k l = some (listE l) := by
  unfold spans_check.f
  have := check0_loop l (by omega) k 0 (Nat.zero_le _) (by omega)
  rw [List.drop_zero] at this
  exact this
theorem listE_ok {l : List (List S27)} (h : listE l = 0) : ∀ x ∈ l, boxB x = true ∧ x.length = (l.headD []).length := by
  unfold listE at h
  split at h
  · split at h
    · rename_i h1 h2
      intro x hx
      refine ⟨List.all_eq_true.1 h1 x hx, ?_⟩
      unfold sameB at h2
      exact beq_iff_eq.1 (List.all_eq_true.1 h2 x hx)
    · cases h
  · cases h
theorem restT_ok {L : List (List S27)} {b : List S27} {n : Nat} (hb : boxB b = true) (hn : b.length = n) (hL : ∀ a ∈ L, boxB a = true ∧ a.length = n) : (∀ a ∈ restT L b, boxB a = true ∧ a.length = n) ∧ (restT L b).length ≤ 6 * L.length := by
  have h3 := boxB_size hb
  refine ⟨fun x hx => ?_, ?_⟩
  · obtain ⟨a, ha, hx⟩ := List.mem_flatMap.1 hx
    have h := hL a ha
    have hd := cutT_dim a b [] x hx
    rw [List.length_nil, Nat.zero_add] at hd
    exact ⟨boxB_mk (cutT_ok a b [] x rfl (boxB_ok h.1) (boxB_ok hb) hx) (by omega) (by omega), by omega⟩
  · induction L with
    | nil => simp [restT]
    | cons a L ih =>
      have ih := ih (fun x hx => hL x (List.mem_cons_of_mem _ hx))
      have h := hL a List.mem_cons_self
      have hm := cutT_max a b []
      have h4 := boxB_size h.1
      rw [show restT (a :: L) b = cutT [] a b ++ restT L b from rfl, List.length_append, List.length_cons]
      omega
theorem leftT_snoc (a : List S27) (l : List (List S27)) (b : List S27) : leftT a (l ++ [b]) = restT (leftT a l) b := by
  unfold leftT
  rw [List.foldl_append]
  rfl
theorem leftT_ok {a : List S27} {l : List (List S27)} {n : Nat} (ha : boxB a = true) (hn : a.length = n) (hl : ∀ b ∈ l, boxB b = true ∧ b.length = n) : (∀ x ∈ leftT a l, boxB x = true ∧ x.length = n) ∧ (leftT a l).length ≤ 6 ^ l.length := by
  have key : ∀ (m : List (List S27)), (∀ b ∈ m, boxB b = true ∧ b.length = n) → ∀ L : List (List S27), (∀ x ∈ L, boxB x = true ∧ x.length = n) → (∀ x ∈ m.foldl restT L, boxB x = true ∧ x.length = n) ∧ (m.foldl restT L).length ≤ 6 ^ m.length * L.length := by
    intro m
    induction m with
    | nil => exact fun _ L hL => ⟨hL, by simp⟩
    | cons b m ih =>
      intro hm L hL
      have h1 := restT_ok (hm b List.mem_cons_self).1 (hm b List.mem_cons_self).2 hL
      have h2 := ih (fun x hx => hm x (List.mem_cons_of_mem _ hx)) (restT L b) h1.1
      refine ⟨h2.1, Nat.le_trans h2.2 ?_⟩
      rw [List.length_cons, Nat.pow_succ, Nat.mul_assoc]
      exact Nat.mul_le_mul_left _ h1.2
  have := key l hl [a] (by intro x hx; rw [List.mem_singleton.1 hx]; exact ⟨ha, hn⟩)
  rwa [List.length_singleton, Nat.mul_one] at this
theorem pow6 {n : Nat} (h : n ≤ 8) : 6 ^ n ≤ 1679616 := Nat.le_trans (Nat.pow_le_pow_right (by decide) h) (by decide)
def Rd (W : World) (v : Value) (L : List (List S27)) : Prop := ∃ A c, v = .slice A L.length c ∧ L.length ≤ c ∧ Kd.C (Kd.slice 27 k27) W A L.length L
theorem Rd.below {W W' : World} {v : Value} {L : List (List S27)} (h : Rd W v L) (hb : Below W.heap.size W W') : Rd W' v L := by
  obtain ⟨A, c, h1, h2, h3⟩ := h
  exact ⟨A, c, h1, h2, Kd.C_below h3 hb⟩
theorem Rd.of_S {W : World} {base : Nat} {ok : Nat → Prop} {v : Value} {L : List (List S27)} (h : Kd.S (Kd.slice 27 k27) 38 W base ok v L) : Rd W v L := Kd.R_reads (Kd.S_R h)
end Go.Proofs.Yteodlmgmmpkpoaa.PS
end
section
namespace Go.Proofs.Yteodlmgmmpkpoaa.PS
open Go.RowKit Go.Proofs.YteodlmgmmpkpoaaW.PrintWords Go.Proofs.YteodlmgmmpkpoaaW.PrintLast Go.Proofs.YteodlmgmmpkpoaaW.PrintMore
attribute [local go_sem] max2_int min2_int max_two min_two max_three min_three max_four min_four   -- for this text's walks alone
set_option linter.unusedVariables false
set_option linter.unusedSimpArgs false
theorem k27_heap : Kd.Heap k27 := Kd.heap_iso _ (Kd.heap_pair (Kd.heap_int .i64) (Kd.heap_int .i64))
end Go.Proofs.Yteodlmgmmpkpoaa.PS
end
section
namespace Go.Proofs.Yteodlmgmmpkpoaa.PS
open Go.RowKit Go.Proofs.YteodlmgmmpkpoaaW.PrintWords Go.Proofs.YteodlmgmmpkpoaaW.PrintLast Go.Proofs.YteodlmgmmpkpoaaW.PrintMore
attribute [local go_sem] max2_int min2_int max_two min_two max_three min_three max_four min_four   -- for this text's walks alone
set_option linter.unusedVariables false
set_option linter.unusedSimpArgs false
def swashplateref01_CopyBoxes.l0 : Nat → List (List (S27)) → List (List (S27)) → Int → Option ((List (List (S27))))
 | 0, _, _, _ => none
 | k + 1, x0, x3, x4 => if x4 < (x0.length : Int) then ((some (([] : List (S27)) : List (S27))).bind fun y690 => (if 0 ≤ x4 then (if y690.length + (rd_L2 x0 x4).length < 8796093022208 then (if x3.length < 5864062014805 then (swashplateref01_CopyBoxes.l0 k x0 (x3 ++ [(y690 ++ (rd_L2 x0 x4))]) (wrap64 (x4 + 1))) else (none)) else (none)) else (none))) else (some x3)
def swashplateref01_CopyBoxes.f (k : Nat) (l0 : List (List (S27))) : Option ((List (List (S27)))) := swashplateref01_CopyBoxes.l0 k l0 ([] : List (List (S27))) 0
set_option maxHeartbeats 8000000 in
set_option maxRecDepth 100000 in
theorem swashplateref01_CopyBoxes.calls (k : Nat) (A0 : Option Addr) (c0 : Nat) (l0 : List (List (S27))) (r : List (List (S27))) (w : World) (hr0 : Kd.C (Kd.slice 27 k27) w A0 l0.length l0) (hc0 : l0.length ≤ c0) (h : swashplateref01_CopyBoxes.f k l0 = some r) :
  Calls Try.prog 66 #[.slice A0 l0.length c0] w fun e w' => ∃ v0_ : Value, e = .returned (v0_) ∧ Kd.S (Kd.slice 27 k27) 38 w' w.heap.size (fun _ => True) v0_ r ∧ Below w.heap.size w w' := by
 have HR0 := Aside0.mk hr0
 have HC0 := Aside0.mk hc0
 clear hr0 hc0
 have HB := Aside0.mk (Below.refl w.heap.size w)
 have H : (swashplateref01_CopyBoxes.l0 k l0 ([] : List (List (S27))) 0) = some r := h
 clear h
 have H' := Aside0.mk H
 clear H
 go_enter Try.func66, Try.ntmps66
 go_wp2
 go_loopg [3, 4] k (fun kq v3 v4 w' => ∃ (x3_1 : List (List (S27))) (x4_1 : Int), v4 = .int .i64 x4_1 ∧ Aside0 (swashplateref01_CopyBoxes.l0 kq l0 x3_1 x4_1 = some r) ∧ Aside0 (kq ≤ k) ∧ Aside0 (Kd.S (Kd.slice 27 k27) 38 w' w.heap.size (fun _ => True) v3 x3_1) ∧ Aside0 (Below w.heap.size w w'))
 case atStart => exact ⟨(([] : List (List (S27)))), (0), (by first | rfl | (simp; done) | (simp [*]; done)), H', ⟨Nat.le_refl _⟩, ⟨by first | exact Kd.S_nil _ _ _ _ _ | exact Kd.N_nil _ _ _ _ _ | exact Kd.V_nil _ _ _ _ _ | exact Kd.Q_nil _ _ _ _ _ | exact Kd.R_nil _ _ _ _ _⟩, ⟨bl_ HB.out⟩⟩
 case round =>
  clear H'
  obtain ⟨x3_1, x4_1, rfl, HA, HK1, HO_3, HB⟩ := hrel
  cases gk with
  | zero => exact absurd HA.out (by simp [swashplateref01_CopyBoxes.l0])
  | succ k1 =>
   have H := HA.out
   clear HA
   simp only [swashplateref01_CopyBoxes.l0] at H
   by_cases c2 : x4_1 < (l0.length : Int)
   ·
    rw [if_pos c2] at H
    have c2b0 : decide (x4_1 < (l0.length : Int)) = true := decide_eq_true c2
    clear c2
    obtain ⟨y690, hy690⟩ : ∃ y_ : List (S27), y_ = (([] : List (S27))) := ⟨_, rfl⟩
    replace H : (if 0 ≤ x4_1 then (if y690.length + (rd_L2 l0 x4_1).length < 8796093022208 then (if x3_1.length < 5864062014805 then (swashplateref01_CopyBoxes.l0 k1 l0 (x3_1 ++ [(y690 ++ (rd_L2 l0 x4_1))]) (wrap64 (x4_1 + 1))) else (none)) else (none)) else (none)) = some r := by first | (rw [hy690]; with_reducible exact H) | (have H2_ := (Option.bind_some _ _).symm.trans H; rw [hy690]; with_reducible exact H2_) | (have H2_ := (Option.bind_some _ _).symm.trans H; with_reducible exact H2_) | with_reducible exact H | (rw [hy690]; exact H) | exact H
    have Ny690 := Aside0.mk hy690
    clear hy690
    by_cases c3 : 0 ≤ x4_1
    ·
     rw [if_pos c3] at H
     have c3b0 : decide (0 ≤ x4_1) = true := decide_eq_true c3
     clear c3
     by_cases c4 : y690.length + (rd_L2 l0 x4_1).length < 8796093022208
     ·
      rw [if_pos c4] at H
      have LMc4 := Aside0.mk c4
      clear c4
      obtain ⟨y694, hy694⟩ : ∃ y_ : List (S27), y_ = (y690 ++ (rd_L2 l0 x4_1)) := ⟨_, rfl⟩
      replace H : (if x3_1.length < 5864062014805 then (swashplateref01_CopyBoxes.l0 k1 l0 (x3_1 ++ [y694]) (wrap64 (x4_1 + 1))) else (none)) = some r := by first | (rw [hy694]; with_reducible exact H) | (have H2_ := (Option.bind_some _ _).symm.trans H; rw [hy694]; with_reducible exact H2_) | (have H2_ := (Option.bind_some _ _).symm.trans H; with_reducible exact H2_) | with_reducible exact H | (rw [hy694]; exact H) | exact H
      have Ny694 := Aside0.mk hy694
      clear hy694
      by_cases c5 : x3_1.length < 5864062014805
      ·
       rw [if_pos c5] at H
       have LMc5 := Aside0.mk c5
       clear c5
       obtain ⟨y697, hy697⟩ : ∃ y_ : List (List (S27)), y_ = (x3_1 ++ [y694]) := ⟨_, rfl⟩
       replace H : (swashplateref01_CopyBoxes.l0 k1 l0 y697 (wrap64 (x4_1 + 1))) = some r := by first | (rw [hy697]; with_reducible exact H) | (have H2_ := (Option.bind_some _ _).symm.trans H; rw [hy697]; with_reducible exact H2_) | (have H2_ := (Option.bind_some _ _).symm.trans H; with_reducible exact H2_) | with_reducible exact H | (rw [hy697]; exact H) | exact H
       have Ny697 := Aside0.mk hy697
       clear hy697
       have H' := Aside0.mk H
       clear H
       go_wp2_with (first | ((with_reducible refine gate_dst (N := 12) rfl ?_); refine Kd.R_lit k27 _ 27 ?hg (N := 12) ?hd (xs := ([] : List (S27))) (inner := []) (ok := fun _ => True) (okp := fun _ => True) ?hr ?hp (fun _ hk => hk) trivial (Below.refl _ _) (Nat.le_refl _) (by simp) ?_; (case hd => rfl); (case hg => rfl); (case hr => first | (go_simp; done) | (go_simp; rfl)); (case hp => exact (Reps.none _ _)); intro v691 w6 ho7 hb hg_ hnew_; clear hg_ hnew_; (first | rw [← Ny690.out] at ho7 | (simp only [Int.reduceToNat] at ho7; rw [← Ny690.out] at ho7)); have n0_ := Aside0.mk (Kd.S_elder' (by (with_reducible repeat (first | apply Kd.S_alloc | apply Kd.S_drewN | apply Kd.S_drew)); exact HO_3.out) (Kd.R_base ho7) hb); have n1_ := Aside0.mk (Kd.R_lower ho7 (below_size (bl_ HB.out))); have n2_ := Aside0.mk (below_step (bl_ HB.out) hb); clear HO_3 HB; have HO_3 := n0_; have HO692 := n1_; have HB := n2_; clear n0_ n1_ n2_ hb ho7; have p693 : 0 ≤ (x4_1 : Int) := of_decide_eq_true (by first | (with_reducible assumption) | assumption); have q693 : x4_1 < (l0.length : Int) := of_decide_eq_true (by first | (with_reducible assumption) | assumption); obtain ⟨ad693, A693_0, c693_0, e693, hx693_0, hl693_0, hi693_0⟩ := at_L2 HR0.out x4_1 p693 q693; cases e693; replace hx693_0 := (HB.out.cell (World.block_lt_of_cell? w _ hx693_0)).trans hx693_0; have HR693_0 := Aside0.mk hi693_0; have HC693_0 := Aside0.mk hl693_0; clear hi693_0 hl693_0; replace p693 := eq_true p693; replace q693 := eq_true q693) | ((with_reducible refine gate_builtin (b := .append) (xs := #[.tmp 12, .tmp 16]) rfl ?_); at_builtin; refine Kd.R_append_rows k27 (w0 := w) w.heap.size rfl (.tmp 12) (.tmp 16) 38 27 (.agg #[(.int .i64 0), (.int .i64 0)]) 16 rfl Try.underlying38 info27 rfl (by decide) (by omega) v691 y690 (rd_L2 l0 x4_1) _ _ _ (fun _ => True) (fun _ => False) rfl rfl ?aO ?aR (fun _ _ h => h) (fun _ h => h.elim) ?aF ?aB ?aS ?aL ?_; (case aR => exact cr_ (Kd.C_below HR693_0.out HB.out)); (case aB => exact (bl_ HB.out)); (case aF => exact (fun _ _ => trivial)); (case aO => exact (by (with_reducible repeat (first | apply Kd.R_alloc | apply Kd.R_drewN | apply Kd.R_drew)); exact HO692.out)); (case aS => exact (below_size (bl_ HB.out))); (case aL => have := LMc4.out; omega); intro v695 w8 ho hb hg hat; rw [← Ny694.out] at ho; have n0_ := Aside0.mk (Kd.S_after (ok := (fun _ => True)) (by (with_reducible repeat (first | apply Kd.S_alloc | apply Kd.S_drewN | apply Kd.S_drew)); exact HO_3.out) hg hat); have n1_ := Aside0.mk (hb); have n2_ := Aside0.mk (ho); clear HO_3 HB HO692; have HO_3 := n0_; have HB := n1_; have HO696 := n2_; clear n0_ n1_ n2_ ho hb hg hat; obtain ⟨Ao10, co10, eo10⟩ := Kd.R_slice HO696.out; subst eo10) | ((with_reducible refine gate_builtin (b := .append) (xs := #[.tmp 11, .tmp 18]) rfl ?_); at_builtin; refine Kd.S_append (Kd.slice 27 k27) (w0 := w) w.heap.size rfl (.tmp 11) (.tmp 18) 95 38 (.slice none 0 0) 24 rfl Try.underlying95 info38 rfl (by decide) (by omega) u3 x3_1 y694 [.slice Ao10 y694.length co10] (fun _ => True) (fun k_ => some k_ = (.slice Ao10 y694.length co10 : Value).ownBlock) rfl rfl ?aP (fun k_ hk_ => ((Kd.R_mono (ok' := fun k_ => ((fun _ => True)) k_ ∧ some k_ ≠ (u3 : Value).ownBlock) (Kd.R_apart' (HO696.out) (Kd.S_typed HO_3.out) (by decide)) (fun k_ hk => ⟨trivial, hk.2⟩))).1 k_ hk_.symm) ?aF ?aO ?aB ?aS ?aL ?_; (case aP => exact Kd.M_row (Kd.R_mono (Kd.R_tight rfl (Kd.R_mono (ok' := fun k_ => ((fun _ => True)) k_ ∧ some k_ ≠ (u3 : Value).ownBlock) (Kd.R_apart' (HO696.out) (Kd.S_typed HO_3.out) (by decide)) (fun k_ hk => ⟨trivial, hk.2⟩))) (fun _ h_ => h_))); (case aB => exact (bl_ HB.out)); (case aF => exact (fun _ _ => trivial)); (case aO => exact (by (with_reducible repeat (first | apply Kd.S_alloc | apply Kd.S_drewN | apply Kd.S_drew)); exact Kd.S_mono HO_3.out (fun k_ hk => ⟨trivial, fun e_ => hk.2 e_⟩))); (case aS => exact (below_size (bl_ HB.out))); (case aL => have := LMc5.out; omega); intro v698 w9 ho hb hg hat; rw [← Ny697.out] at ho; have n0_ := Aside0.mk (hb); have n1_ := Aside0.mk (ho); clear HB HO_3 HO696; have HB := n0_; have HO699 := n1_; clear n0_ n1_ ho hb hg hat))
       go_roundg k1
       case measure => have := HK1.out; omega
       case rel => exact ⟨(y697), (wrap64 (x4_1 + 1)), (by first | rfl | (simp; done) | (simp [*]; done)), H', ⟨by have := HK1.out; omega⟩, ⟨by (with_reducible repeat (first | apply Kd.S_alloc | apply Kd.S_drewN | apply Kd.S_drew)); exact HO699.out⟩, ⟨bl_ HB.out⟩⟩
      ·
       rw [if_neg c5] at H
       exact absurd H (by simp)
     ·
      rw [if_neg c4] at H
      exact absurd H (by simp)
    ·
     rw [if_neg c3] at H
     exact absurd H (by simp)
   ·
    rw [if_neg c2] at H
    have c2b0 : decide (x4_1 < (l0.length : Int)) = false := decide_eq_false c2
    clear c2
    obtain rfl := Option.some.inj H
    go_wp2
    go_ret
    exact ⟨_, by first | rfl | (simp [errW_none, errW_some] <;> rfl) | (simp [*, errW_none, errW_some] <;> rfl), by (with_reducible repeat (first | apply Kd.S_alloc | apply Kd.S_drewN | apply Kd.S_drew)); exact HO_3.out, bl_ HB.out⟩
end Go.Proofs.Yteodlmgmmpkpoaa.PS
end
section
namespace Go.Proofs.Yteodlmgmmpkpoaa.PS
open Go.RowKit Go.Proofs.YteodlmgmmpkpoaaW.PrintWords Go.Proofs.YteodlmgmmpkpoaaW.PrintLast Go.Proofs.YteodlmgmmpkpoaaW.PrintMore
set_option linter.unusedVariables false
set_option linter.unusedSimpArgs false
theorem rdL2_nat (L : List (List S27)) (i : Nat) : rd_L2 L (i : Int) = L.getD i [] := by unfold rd_L2; rw [Int.toNat_natCast]
theorem restT_cons (a : List S27) (L : List (List S27)) (b : List S27) : restT (a :: L) b = cutT [] a b ++ restT L b := rfl
theorem copyB_loop (l : List (List S27)) (hl : l.length ≤ 1000) (hd : ∀ x ∈ l, x.length ≤ 1000) : ∀ (k i : Nat), i ≤ l.length → l.length - i < k → swashplateref01_CopyBoxes.l0 k l (l.take i) i = some l
  | 0, i, _, h => absurd h (Nat.not_lt_zero _)
  | k + 1, i, hi, hk => by
    simp only [swashplateref01_CopyBoxes.l0]
    by_cases hlt : i < l.length
    · have hx := hd _ (getD_mem l [] i hlt)
      rw [if_pos (by omega), Option.bind_some, if_pos (by omega), rdL2_nat, if_pos (by simp only [List.length_nil]; omega), if_pos (by rw [List.length_take]; omega), List.nil_append, step64 i (by omega)]
      have := copyB_loop l hl hd k (i + 1) (by omega) (by omega)
      rw [List.take_succ_eq_append_getElem hlt] at this
      simpa [List.getD_eq_getElem?_getD, List.getElem?_eq_getElem hlt] using this
    · obtain rfl : i = l.length := by omega
      rw [if_neg (by omega), List.take_length]
theorem copyB_total (l : List (List S27)) (hl : l.length ≤ 1000) (hd : ∀ x ∈ l, x.length ≤ 1000) (k : Nat) (hk : l.length < k) : swashplateref01_CopyBoxes.f k l = some l := by
  unfold swashplateref01_CopyBoxes.f
  exact copyB_loop l hl hd k 0 (Nat.zero_le _) (by omega)
end Go.Proofs.Yteodlmgmmpkpoaa.PS
end
section
namespace Go.Proofs.Yteodlmgmmpkpoaa.PS
open Go.RowKit Go.Proofs.YteodlmgmmpkpoaaW.PrintWords Go.Proofs.YteodlmgmmpkpoaaW.PrintLast Go.Proofs.YteodlmgmmpkpoaaW.PrintMore
set_option linter.unusedVariables false
set_option linter.unusedSimpArgs false
def volN (b : List S27) : Nat := match b with
  | [] => 1
  | s :: b => (s.f1 - s.f0 + 1).toNat * volN b
theorem cnt_cons (p : List Int) (x : List S27) (L : List (List S27)) : cnt p (x :: L) = (if inT p x then 1 else 0) + cnt p L := by
  rw [show x :: L = [x] ++ L from rfl, cnt_app, cnt_one]
def volL (L : List (List S27)) : Nat := match L with
  | [] => 0
  | x :: L => volN x + volL L
theorem rest_cnt (p : List Int) (b : List S27) (hb : okA b = true) (hp : p.length = b.length) : ∀ L : List (List S27), (∀ x ∈ L, okA x = true ∧ x.length = b.length) → cnt p (restT L b) = if inT p b then 0 else cnt p L
  | [], _ => by simp [restT, cnt_nil]
  | x :: L, h => by
    have hx := h x List.mem_cons_self
    have hc := cut_cnt x b p [] [] hx.2 (by omega) rfl hx.1 hb
    rw [List.nil_append, show inT [] [] = true by simp [inT], Bool.true_and] at hc
    rw [restT_cons, cnt_app, rest_cnt p b hb hp L (fun y hy => h y (List.mem_cons_of_mem _ hy)), hc, cnt_cons]
    rcases Bool.eq_false_or_eq_true (inT p b) with hv | hv
    · simp [hv]
    · rcases Bool.eq_false_or_eq_true (inT p x) with hu | hu <;> simp [hv, hu]
theorem left_cnt (p : List Int) (a : List S27) (ha : okA a = true) (hp : p.length = a.length) (l : List (List S27)) (hl : ∀ b ∈ l, okA b = true ∧ b.length = a.length) : cnt p (leftT a l) = if inT p a && l.all (fun b => !inT p b) then 1 else 0 := by
  have key : ∀ (m : List (List S27)), (∀ b ∈ m, okA b = true ∧ b.length = a.length) → ∀ L : List (List S27), (∀ x ∈ L, okA x = true ∧ x.length = a.length) → cnt p (m.foldl restT L) = if m.all (fun b => !inT p b) then cnt p L else 0 := by
    intro m
    induction m with
    | nil => intro _ L _; simp
    | cons b m ih =>
      intro hm L hL
      have hb := hm b List.mem_cons_self
      have hR : ∀ x ∈ restT L b, okA x = true ∧ x.length = a.length := fun x hx => by
        obtain ⟨y, hy, hx⟩ := List.mem_flatMap.1 hx
        have hd := cutT_dim y b [] x hx
        rw [List.length_nil, Nat.zero_add] at hd
        exact ⟨cutT_ok y b [] x rfl (hL y hy).1 hb.1 hx, hd.trans (hL y hy).2⟩
      rw [List.foldl_cons, ih (fun x hx => hm x (List.mem_cons_of_mem _ hx)) _ hR, rest_cnt p b hb.1 (by omega) L (fun x hx => ⟨(hL x hx).1, (hL x hx).2.trans hb.2.symm⟩), List.all_cons]
      rcases Bool.eq_false_or_eq_true (inT p b) with hv | hv <;> simp [hv]
  have := key l hl [a] (by intro x hx; rw [List.mem_singleton.1 hx]; exact ⟨ha, rfl⟩)
  unfold leftT
  rw [this, cnt_one]
  rcases Bool.eq_false_or_eq_true (inT p a) with hu | hu <;> simp [hu]
def totV : List (List S27) → List (List S27) → Nat
  | _, [] => 0
  | pre, a :: l => volL (leftT a pre) + totV (pre ++ [a]) l
end Go.Proofs.Yteodlmgmmpkpoaa.PS
end
section
namespace Go.Proofs.Yteodlmgmmpkpoaa.PS
open Go.RowKit Go.Shelf Go.Proofs.YteodlmgmmpkpoaaW.PrintWords Go.Proofs.YteodlmgmmpkpoaaW.PrintLast Go.Proofs.YteodlmgmmpkpoaaW.PrintMore
set_option linter.unusedVariables false
set_option linter.unusedSimpArgs false
attribute [local go_sem] Oper.semAt_some
def bndT : Nat → Int
  | 0 => 1
  | 1 => 2000001
  | 2 => 4000004000001
  | _ => 8000012000006000001
theorem bnd_le : ∀ d : Nat, bndT d ≤ 8000012000006000001
  | 0 => by decide
  | 1 => by decide
  | 2 => by decide
  | _ + 3 => Int.le_refl _
theorem min_sat (x : Int) : (if 1000000000000000000 < x then 1000000000000000000 else x) = min x 1000000000000000000 := by split <;> omega
theorem mul_bnd {d : Nat} {x y : Int} (hd : d < 3) (h1 : 1 ≤ x) (h2 : x ≤ bndT d) (h3 : 1 ≤ y) (h4 : y ≤ 2000001) : 1 ≤ x * y ∧ x * y ≤ bndT (d + 1) ∧ x * y ≤ 8000012000006000001 := by
  have hb : bndT d * 2000001 = bndT (d + 1) ∧ bndT (d + 1) ≤ 8000012000006000001 := by
    rcases (show d = 0 ∨ d = 1 ∨ d = 2 by omega) with rfl | rfl | rfl <;> decide
  have h5 : x * y ≤ bndT d * 2000001 := Int.mul_le_mul h2 h4 (by omega) (by omega)
  have h6 : 0 < x * y := Int.mul_pos (by omega) (by omega)
  omega
def spans_CountP.f (l : List (List S27)) : Option (Int × Int) :=
  if 20 < l.length then some (0, 2) else if 8 < l.length then none else some (if listE l = 0 then (countT [] l 0, 0) else (0, listE l))
set_option maxRecDepth 100000 in
set_option maxHeartbeats 4000000 in
theorem spans_CountP.calls (A0 : Option Addr) (c0 : Nat) (l0 : List (List (S27))) (r1 : Int) (r2 : Int) (w : World) (hr0 : Kd.C (Kd.slice 27 k27) w A0 l0.length l0) (hc0 : l0.length ≤ c0) (h : spans_CountP.f l0 = some (r1, r2)) :
    Calls Try.prog 65 #[.slice A0 l0.length c0] w fun e w' => e = .returned (.tuple #[.int .i64 r1, .int .i64 r2]) ∧ Below w.heap.size w w' := by
  have HR0 := Aside0.mk hr0
  clear hr0
  refine (callsIn_wide (n := 7)).1 (callsIn_of_wp Try.func65 rfl trivial ?_ rfl)
  simp only [Try.ntmps65, List.size_toArray, List.length_cons, List.length_nil, Nat.reduceAdd, Nat.reduceSub, Array.replicate_succ, Array.replicate_zero, List.push_toArray, List.append_toArray, List.nil_append, List.cons_append]
  unfold spans_CountP.f at h
  by_cases hm : 20 < l0.length
  · rw [if_pos hm] at h
    cases h
    have hdec : decide ((l0.length : Int) > 20) = true := decide_eq_true (by omega)
    gi_wp2
    refine bodyPost_ret (results_list (rs := [.tmp 2, .tmp 3]) rfl (by simp) (.tmp (.tmp .nil))) rfl ?_
    exact ⟨rfl, Below.refl _ _⟩
  · rw [if_neg hm] at h
    by_cases h8 : 8 < l0.length
    · rw [if_pos h8] at h
      cases h
    · rw [if_neg h8] at h
      have H := Aside0.mk (Option.some.inj h)
      clear h
      have hdec : decide ((l0.length : Int) > 20) = false := decide_eq_false (by omega)
      have ck := Aside0.mk (checkL_total l0 (by omega) 1000 (by omega))
      by_cases he : listE l0 = 0
      · have HE := Aside0.mk he
        rw [he] at ck
        rw [if_pos he] at H
        clear he
        have HL : Aside0 (l0.length ≤ 8) := ⟨by omega⟩
        gi_wp2_with (refine ⟨trivial, ?_⟩; gi_at_call 124; refine (callsIn_wide.2 (spans_check.calls 1000 A0 c0 l0 _ _ (by repeat (first | exact HR0.out | (with_reducible refine Kd.C_alloc ?_ _) | (with_reducible refine Kd.C_drewN ?_ _) | (with_reducible refine Kd.C_drew ?_))) hc0 ck.out)).mono ?_; rintro e w1 ⟨rfl, hb1⟩)
        have HB1 := Aside0.mk hb1
        clear hb1
        gi_loopw [2, 25] (fun v2 v25 wr => ∃ (i : Nat) (s : Int), v2 = .int .i64 s ∧ v25 = .int .i64 i ∧ Aside0 (i ≤ l0.length ∧ 0 ≤ s ∧ s ≤ 1000000000000000000 ∧ countT (l0.take i) (l0.drop i) s = countT [] l0 0) ∧ Aside0 (Below w.heap.size w wr)) (fun _ v25 _ => l0.length - (intOf v25).toNat)
        case atStart => exact ⟨0, 0, rfl, rfl, ⟨Nat.zero_le _, by omega, by omega, by rw [List.take_zero, List.drop_zero]⟩, HB1⟩
        case round =>
          obtain ⟨i, s, rfl, rfl, HI, HB⟩ := hrel
          by_cases hi : i < l0.length
          · obtain ⟨ad, A1, c1, rfl, hcell, hc1, hCa⟩ := at_L2 (Kd.C_below HR0.out HB.out) (i : Int) (by omega) (by omega)
            rw [Int.toNat_natCast] at hcell
            obtain ⟨a, ha⟩ : ∃ a, rd_L2 l0 (i : Int) = a := ⟨_, rfl⟩
            rw [ha] at hcell hc1 hCa
            have hga : l0.getD i [] = a := by rw [← ha]; unfold rd_L2; rw [Int.toNat_natCast]
            have HA : Aside0 (a ∈ l0 ∧ boxB a = true ∧ a.length = (l0.headD []).length ∧ l0.drop i = a :: l0.drop (i + 1) ∧ l0.take (i + 1) = l0.take i ++ [a]) := by
              have hmem : a ∈ l0 := by rw [← hga]; exact getD_mem l0 [] i hi
              refine ⟨hmem, (listE_ok HE.out a hmem).1, (listE_ok HE.out a hmem).2, ?_, ?_⟩
              · rw [drop_stepG [] l0 i hi, hga]
              · rw [List.take_succ_eq_append_getElem hi, ← hga]
                simp [List.getD_eq_getElem?_getD, List.getElem?_eq_getElem hi]
            have HCa := Aside0.mk hCa
            clear hCa ha hga
            have hdi : decide ((i : Int) < (l0.length : Int)) = true := decide_eq_true (by omega)
            gi_wp2
            have HB2 : Aside0 (Below w.heap.size w (wr.alloc (.cells #[.slice A1 a.length c1] 38))) := ⟨below_alloc HB.out _⟩
            have HRd0 : Aside0 (Rd (wr.alloc (.cells #[.slice A1 a.length c1] 38)) (.slice (some ⟨wr.heap.size, 0, none⟩) 1 1) [a]) := ⟨⟨_, _, rfl, Nat.le_refl _, slice_lit HCa.out hc1⟩⟩
            have hi8 : i < l0.length := hi
            gi_loopw [7, 36] (fun v7 v36 ws => ∃ (j : Nat), v36 = .int .i64 j ∧ Aside0 (j ≤ i) ∧ Aside0 (Rd ws v7 (leftT a (l0.take j))) ∧ Aside0 (Below w.heap.size w ws)) (fun _ v36 _ => i - (intOf v36).toNat)
            case atStart => exact ⟨0, rfl, ⟨Nat.zero_le _⟩, HRd0, HB2⟩
            case round =>
              obtain ⟨j, rfl, HJ, HRd, HBs⟩ := hrel
              by_cases hj : j < i
              · obtain ⟨ad', A2, c2, e2, hcell2, hc2, hCb⟩ := at_L2 (Kd.C_below HR0.out HBs.out) (j : Int) (by omega) (by have := HJ.out; omega)
                obtain rfl : ad = ad' := by injection e2
                rw [Int.toNat_natCast] at hcell2
                obtain ⟨b, hb⟩ : ∃ b, rd_L2 l0 (j : Int) = b := ⟨_, rfl⟩
                rw [hb] at hcell2 hc2 hCb
                have hgb : l0.getD j [] = b := by rw [← hb]; unfold rd_L2; rw [Int.toNat_natCast]
                have hmem : b ∈ l0 := by rw [← hgb]; exact getD_mem l0 [] j (by omega)
                have HBb : Aside0 (b ∈ l0 ∧ boxB b = true ∧ b.length = (l0.headD []).length ∧ l0.take (j + 1) = l0.take j ++ [b]) := by
                  refine ⟨hmem, (listE_ok HE.out b hmem).1, (listE_ok HE.out b hmem).2, ?_⟩
                  rw [List.take_succ_eq_append_getElem (by omega), ← hgb]
                  simp [List.getD_eq_getElem?_getD, List.getElem?_eq_getElem (show j < l0.length by omega)]
                have hall := leftT_ok (a := a) (l := l0.take j) HA.out.2.1 HA.out.2.2.1 (fun x hx => listE_ok HE.out x (List.mem_of_mem_take hx))
                have hp6 := pow6 (n := (l0.take j).length) (by rw [List.length_take]; have := HL.out; omega)
                have HCb := Aside0.mk hCb
                have HAll := Aside0.mk hall
                have HP6 : Aside0 ((leftT a (l0.take j)).length ≤ 100000000) := ⟨by have := hall.2; omega⟩
                obtain ⟨A7, c7, rfl, hc7, hC7⟩ := HRd.out
                have HC7 := Aside0.mk hC7
                have hdj : decide ((j : Int) < (i : Int)) = true := decide_eq_true (by omega)
                have wj : IntKind.i64.wrap ((j : Int) + 1) = ((j + 1 : Nat) : Int) := by rw [wrI (by omega) (by omega)]; rfl
                clear hCb hall hp6 hC7 hb hgb hmem e2
                gi_wp2_with (refine ⟨trivial, ?_⟩; gi_at_call 123; refine (callsIn_wide.2 (rest.calls A7 c7 _ A2 c2 b HBb.out.2.1 (fun x hx => ⟨(HAll.out.1 x hx).1, (HAll.out.1 x hx).2.trans HBb.out.2.2.1.symm⟩) HP6.out _ HC7.out hc7 HCb.out hc2)).mono ?_; rintro e w2 ⟨v, rfl, hS, hb2⟩)
                refine ⟨⟨j + 1, by rw [Int.natCast_succ], ⟨by omega⟩, ⟨?_⟩, ⟨HBs.out.trans (hb2.mono HBs.out.size)⟩⟩, ?_⟩
                · rw [HBb.out.2.2.2, leftT_snoc]
                  exact Rd.of_S hS
                · show i - ((j : Int) + 1).toNat < i - (j : Int).toNat
                  omega
              · obtain rfl : j = i := by have := HJ.out; omega
                have hdj : decide ((j : Int) < (j : Int)) = false := decide_eq_false (by omega)
                have hall := leftT_ok (a := a) (l := l0.take j) HA.out.2.1 HA.out.2.2.1 (fun x hx => listE_ok HE.out x (List.mem_of_mem_take hx))
                have hp6 := pow6 (n := (l0.take j).length) (by rw [List.length_take]; have := HL.out; omega)
                obtain ⟨L, hLe⟩ : ∃ L, leftT a (l0.take j) = L := ⟨_, rfl⟩
                have HLe := Aside0.mk hLe
                rw [hLe] at HRd hall
                have HAll := Aside0.mk hall.1
                have HLL : Aside0 (L.length ≤ 100000000) := ⟨by omega⟩
                obtain ⟨A7, c7, rfl, hc7, hC7⟩ := HRd.out
                have HC7 := Aside0.mk hC7
                clear hall hp6 hLe hC7
                gi_wp2
                gi_loopw [2, 46] (fun v2 v46 wt => ∃ (m : Nat) (s2 : Int), v2 = .int .i64 s2 ∧ v46 = .int .i64 m ∧ Aside0 (m ≤ L.length ∧ 0 ≤ s2 ∧ s2 ≤ 1000000000000000000 ∧ satT ((L.drop m).map sizeT) s2 = satT (L.map sizeT) s) ∧ Aside0 (Below wr.heap.size wr wt)) (fun _ v46 _ => L.length - (intOf v46).toNat)
                case atStart => exact ⟨0, s, rfl, rfl, ⟨Nat.zero_le _, HI.out.2.1, HI.out.2.2.1, by rw [List.drop_zero]⟩, ⟨Below.refl _ _⟩⟩
                case round =>
                  obtain ⟨m, s2, rfl, rfl, HM, HBt⟩ := hrel
                  by_cases hm2 : m < L.length
                  · obtain ⟨ad7, A8, c8, rfl, hcell8, hc8, hCx⟩ := at_L2 (Kd.C_below HC7.out HBt.out) (m : Int) (by omega) (by omega)
                    rw [Int.toNat_natCast] at hcell8
                    obtain ⟨x, hx⟩ : ∃ x, rd_L2 L (m : Int) = x := ⟨_, rfl⟩
                    rw [hx] at hcell8 hc8 hCx
                    have hgx : L.getD m [] = x := by rw [← hx]; unfold rd_L2; rw [Int.toNat_natCast]
                    have HX : Aside0 (boxB x = true ∧ L.drop m = x :: L.drop (m + 1)) := ⟨(HAll.out x (by rw [← hgx]; exact getD_mem L [] m hm2)).1, by rw [drop_stepG [] L m hm2, hgx]⟩
                    have HCx := Aside0.mk hCx
                    clear hCx hx hgx
                    have hdm : decide ((m : Int) < (L.length : Int)) = true := decide_eq_true (by omega)
                    gi_wp2
                    have HB3 := Aside0.mk (Below.refl wr.heap.size wr)
                    have h3 := Aside0.mk (boxB_size HX.out.1)
                    gi_loopw [12, 52] (fun v12 v52 wu => ∃ (d : Nat) (pt : Int), v12 = .int .i64 pt ∧ v52 = .int .i64 d ∧ Aside0 (d ≤ x.length ∧ 1 ≤ pt ∧ pt ≤ bndT d ∧ (x.drop d).foldl (fun n s => n * (s.f1 - s.f0 + 1)) pt = sizeT x) ∧ Aside0 (Below wr.heap.size wr wu)) (fun _ v52 _ => x.length - (intOf v52).toNat)
                    case atStart => exact ⟨0, 1, rfl, rfl, ⟨Nat.zero_le _, Int.le_refl _, Int.le_refl _, by rw [List.drop_zero]; rfl⟩, HB3⟩
                    case round =>
                      obtain ⟨d, pt, rfl, rfl, HD, HBu⟩ := hrel
                      by_cases hd : d < x.length
                      · obtain ⟨ad8, rfl, y0, y1⟩ := at_T27 (Kd.C_below HCx.out HBu.out) (d : Int) (by omega) (by omega)
                        rw [rdT27_nat, Int.toNat_natCast] at y0 y1
                        have hs := boxB_at HX.out.1 hd
                        have HDr := Aside0.mk (drop_stepG z27 x d hd)
                        obtain ⟨sp, hsp⟩ : ∃ sp, x.getD d z27 = sp := ⟨_, rfl⟩
                        rw [hsp] at y0 y1 hs
                        have HSp := Aside0.mk hsp
                        have hdd : decide ((d : Int) < (x.length : Int)) = true := decide_eq_true (by omega)
                        have wd : IntKind.i64.wrap ((d : Int) + 1) = ((d + 1 : Nat) : Int) := by have := h3.out; rw [wrI (by omega) (by omega)]; rfl
                        have w1 : IntKind.i64.wrap (sp.f1 - sp.f0) = sp.f1 - sp.f0 := wrI (by omega) (by omega)
                        have w2 : IntKind.i64.wrap (sp.f1 - sp.f0 + 1) = sp.f1 - sp.f0 + 1 := wrI (by omega) (by omega)
                        have HMul := Aside0.mk (mul_bnd (d := d) (by have := h3.out; omega) HD.out.2.1 HD.out.2.2.1 (show 1 ≤ sp.f1 - sp.f0 + 1 by omega) (show sp.f1 - sp.f0 + 1 ≤ 2000001 by omega))
                        have w3 : IntKind.i64.wrap (pt * (sp.f1 - sp.f0 + 1)) = pt * (sp.f1 - sp.f0 + 1) := wrI (Int.le_trans (by decide) HMul.out.1) (Int.le_trans HMul.out.2.2 (by decide))
                        clear hsp hs
                        gi_wp2
                        refine ⟨⟨d + 1, pt * (sp.f1 - sp.f0 + 1), rfl, by rw [Int.natCast_succ], ⟨by omega, HMul.out.1, HMul.out.2.1, ?_⟩, ⟨HBu.out.trans ((below_alloc (Below.refl _ _) _).mono HBu.out.size)⟩⟩, ?_⟩
                        · have hc := HD.out.2.2.2
                          rw [HDr.out, List.foldl_cons, HSp.out] at hc
                          exact hc
                        · show x.length - ((d : Int) + 1).toNat < x.length - (d : Int).toNat
                          omega
                      · obtain rfl : d = x.length := by have := HD.out.1; omega
                        have hdd : decide ((x.length : Int) < (x.length : Int)) = false := decide_eq_false (by omega)
                        have hpt : pt = sizeT x := by
                          have hc := HD.out.2.2.2
                          rw [List.drop_of_length_le (Nat.le_refl _)] at hc
                          exact hc
                        have hbd : pt ≤ 8000012000006000001 := Int.le_trans HD.out.2.2.1 (bnd_le _)
                        have W5 : Aside0 (wrap64 (s2 + sizeT x) = s2 + sizeT x) := ⟨by rw [← hpt]; exact wr64 (by have := HM.out; have := HD.out; omega) (by have := HM.out; omega)⟩
                        have W6 : Aside0 (wrap64 ((m : Int) + 1) = (m : Int) + 1) := ⟨by have := HLL.out; exact wr64 (by omega) (by omega)⟩
                        have HPt : Aside0 (1 ≤ pt ∧ pt ≤ 8000012000006000001) := ⟨HD.out.2.1, hbd⟩
                        subst hpt
                        clear hbd
                        gi_wp2
                        rw [W5.out, W6.out]
                        refine ⟨⟨m + 1, min (s2 + sizeT x) 1000000000000000000, by rw [min_sat], by rw [Int.natCast_succ], ⟨by omega, by have := HM.out; have := HPt.out; omega, by omega, ?_⟩, ⟨HBt.out.trans (HBu.out.mono HBt.out.size)⟩⟩, ?_⟩
                        · have hc := HM.out.2.2.2
                          rw [HX.out.2, List.map_cons] at hc
                          exact hc
                        · show L.length - ((m : Int) + 1).toNat < L.length - (m : Int).toNat
                          omega
                  · obtain rfl : m = L.length := by have := HM.out.1; omega
                    have hdm : decide ((L.length : Int) < (L.length : Int)) = false := decide_eq_false (by omega)
                    have wi : IntKind.i64.wrap ((j : Int) + 1) = ((j + 1 : Nat) : Int) := by rw [wrI (by omega) (by omega)]; rfl
                    gi_wp2
                    refine ⟨⟨j + 1, s2, rfl, by rw [Int.natCast_succ], ⟨by omega, HM.out.2.1, HM.out.2.2.1, ?_⟩, ⟨HBs.out.trans (HBt.out.mono HBs.out.size)⟩⟩, ?_⟩
                    · have hc := HI.out.2.2.2
                      have hsat := HM.out.2.2.2
                      rw [HA.out.2.2.2.1] at hc
                      simp only [countT] at hc
                      rw [HLe.out, ← hsat, List.drop_of_length_le (Nat.le_refl _)] at hc
                      rw [HA.out.2.2.2.2]
                      exact hc
                    · show l0.length - ((j : Int) + 1).toNat < l0.length - (j : Int).toNat
                      omega
          · obtain rfl : i = l0.length := by have := HI.out.1; omega
            have hdi : decide ((l0.length : Int) < (l0.length : Int)) = false := decide_eq_false (by omega)
            have HH := HI.out.2.2.2
            rw [List.drop_of_length_le (Nat.le_refl _)] at HH
            have HG := H.out
            rw [← HH] at HG
            cases HG
            gi_wp2
            refine bodyPost_ret (results_list (rs := [.tmp 2, .tmp 3]) rfl (by simp) (.tmp (.tmp .nil))) rfl ?_
            exact ⟨rfl, HB.out⟩
      · have hne : (listE l0 != 0) = true := by simpa using he
        rw [if_neg he] at H
        cases H.out
        clear he
        gi_wp2_with (refine ⟨trivial, ?_⟩; gi_at_call 124; refine (callsIn_wide.2 (spans_check.calls 1000 A0 c0 l0 _ _ (by repeat (first | exact HR0.out | (with_reducible refine Kd.C_alloc ?_ _) | (with_reducible refine Kd.C_drewN ?_ _) | (with_reducible refine Kd.C_drew ?_))) hc0 ck.out)).mono ?_; rintro e w1 ⟨rfl, hb1⟩)
        refine bodyPost_ret (results_list (rs := [.tmp 2, .tmp 3]) rfl (by simp) (.tmp (.tmp .nil))) rfl ?_
        exact ⟨rfl, hb1⟩
end Go.Proofs.Yteodlmgmmpkpoaa.PS
end
section
namespace Go.Proofs.Yteodlmgmmpkpoaa.PS
open Go.RowKit Go.Proofs.YteodlmgmmpkpoaaW.PrintWords Go.Proofs.YteodlmgmmpkpoaaW.PrintLast Go.Proofs.YteodlmgmmpkpoaaW.PrintMore
set_option linter.unusedVariables false
set_option linter.unusedSimpArgs false
theorem size_fold (b : List S27) : ∀ c : Int, b.foldl (fun n s => n * (s.f1 - s.f0 + 1)) c = c * sizeT b := by
  induction b with
  | nil => intro c; simp [sizeT]
  | cons s b ih =>
    intro c
    unfold sizeT
    rw [List.foldl_cons, List.foldl_cons, ih, ih (1 * (s.f1 - s.f0 + 1)), Int.one_mul, Int.mul_assoc]
theorem size_vol : ∀ b : List S27, okA b = true → sizeT b = (volN b : Int)
  | [], _ => rfl
  | s :: b, h => by
    obtain ⟨h1, h2⟩ := (okA_cons _ _).1 h
    have e : sizeT (s :: b) = (s.f1 - s.f0 + 1) * sizeT b := by
      show b.foldl _ (1 * (s.f1 - s.f0 + 1)) = _
      rw [size_fold, Int.one_mul]
    rw [e, size_vol b h2, show volN (s :: b) = (s.f1 - s.f0 + 1).toNat * volN b from rfl, Int.natCast_mul]
    congr 1
    omega
theorem size_pos {b : List S27} (h : okA b = true) : 1 ≤ sizeT b := by
  induction b with
  | nil => decide
  | cons s b ih =>
    obtain ⟨h1, h2⟩ := (okA_cons _ _).1 h
    have e : sizeT (s :: b) = (s.f1 - s.f0 + 1) * sizeT b := by
      show b.foldl _ (1 * (s.f1 - s.f0 + 1)) = _
      rw [size_fold, Int.one_mul]
    have := Int.mul_pos (show 0 < s.f1 - s.f0 + 1 by omega) (show 0 < sizeT b by have := ih h2; omega)
    omega
theorem sat_vol : ∀ (L : List (List S27)), (∀ x ∈ L, okA x = true) → ∀ s : Int, 0 ≤ s → satT (L.map sizeT) (min s 1000000000000000000) = min (s + (volL L : Int)) 1000000000000000000
  | [], _, s, _ => by simp [satT, volL]
  | x :: L, h, s, hs => by
    have hx := h x List.mem_cons_self
    have hp := size_pos hx
    have ih := sat_vol L (fun y hy => h y (List.mem_cons_of_mem _ hy)) (s + sizeT x) (by omega)
    rw [List.map_cons]
    show satT (L.map sizeT) (min (min s 1000000000000000000 + sizeT x) 1000000000000000000) = _
    rw [show min (min s 1000000000000000000 + sizeT x) 1000000000000000000 = min (s + sizeT x) 1000000000000000000 by omega, ih, size_vol x hx]
    simp only [volL]
    omega
theorem count_vol (d : Nat) : ∀ (l pre : List (List S27)), (∀ b ∈ pre ++ l, boxB b = true ∧ b.length = d) → ∀ s : Int, 0 ≤ s → countT pre l (min s 1000000000000000000) = min (s + (totV pre l : Int)) 1000000000000000000
  | [], pre, _, s, _ => by simp [countT, totV]
  | a :: l, pre, h, s, hs => by
    have ha := h a (by simp)
    have hok := leftT_ok (a := a) (l := pre) (n := d) ha.1 ha.2 (fun b hm => h b (by simp [hm]))
    simp only [countT]
    rw [sat_vol _ (fun x hx => boxB_ok (hok.1 x hx).1) s hs, count_vol d l (pre ++ [a]) (by rw [List.append_assoc]; exact h) (s + (volL (leftT a pre) : Int)) (by omega)]
    simp only [totV]
    omega
end Go.Proofs.Yteodlmgmmpkpoaa.PS
end
section
namespace Go.Proofs.Yteodlmgmmpkpoaa.PS
open Go.RowKit Go.Shelf Go.Proofs.YteodlmgmmpkpoaaW.PrintWords Go.Proofs.YteodlmgmmpkpoaaW.PrintLast Go.Proofs.YteodlmgmmpkpoaaW.PrintMore
set_option linter.unusedVariables false
set_option linter.unusedSimpArgs false
attribute [local go_sem] Oper.semAt_some
theorem run_pt_nil (ad : Addr) (n c : Nat) (w : World) : (binOp .eql 22 (.slice (some ad) n c) (.slice none 0 0)).run Try.prog w = .ok (.bool false) w := by
  first | kernel_rfl | (simp [binOp, Try.underlying22, go_sem])
theorem run_pt_nil0 (w : World) : (binOp .eql 22 (.slice none 0 0) (.slice none 0 0)).run Try.prog w = .ok (.bool true) w := by
  first | kernel_rfl | (simp [binOp, Try.underlying22, go_sem])
attribute [local go_sem] run_pt_nil run_pt_nil0
theorem lows_len (x : List S27) : (lowsT x).length = x.length := by unfold lowsT; rw [List.length_map]
def spans_CoversP.f (a : List S27) (l : List (List S27)) : Option (List Int × Bool × Int) :=
  if 20 < l.length then some ([], false, 2) else if 8 < l.length then none else some (if listE (a :: l) = 0 then (firstT ((leftT a l).map lowsT), (leftT a l).isEmpty, 0) else ([], false, listE (a :: l)))
set_option maxRecDepth 100000 in
set_option maxHeartbeats 4000000 in
theorem spans_CoversP.calls (A0 : Option Addr) (c0 : Nat) (l0 : List (S27)) (A1 : Option Addr) (c1 : Nat) (l1 : List (List (S27))) (r1 : List Int) (r2 : Bool) (r3 : Int) (w : World) (hr0 : Kd.C k27 w A0 l0.length l0) (hc0 : l0.length ≤ c0) (hr1 : Kd.C (Kd.slice 27 k27) w A1 l1.length l1) (hc1 : l1.length ≤ c1) (h : spans_CoversP.f l0 l1 = some (r1, r2, r3)) :
    Calls Try.prog 76 #[.slice A0 l0.length c0, .slice A1 l1.length c1] w fun e w' => ∃ v0_ : Value, e = .returned (.tuple #[v0_, .bool r2, .int .i64 r3]) ∧ Kd.R (Kd.int .i64) 3 w' w.heap.size (fun _ => True) v0_ r1 ∧ Below w.heap.size w w' := by
  have HR0 := Aside0.mk hr0
  have HR1 := Aside0.mk hr1
  clear hr0 hr1
  have HB := Aside0.mk (Below.refl w.heap.size w)
  unfold spans_CoversP.f at h
  by_cases hm : 20 < l1.length
  · rw [if_pos hm] at h
    cases h
    have hdec : decide ((l1.length : Int) > 20) = true := decide_eq_true (by omega)
    go_enter Try.func76, Try.ntmps76
    go_wp2
    refine bodyPost_ret (results_list (rs := [.tmp 4, .tmp 5, .tmp 6]) rfl (by simp) (.tmp (.tmp (.tmp .nil)))) rfl ?_
    exact ⟨_, rfl, Kd.R_nil _ _ _ _ _, Below.refl _ _⟩
  · rw [if_neg hm] at h
    by_cases h8 : 8 < l1.length
    · rw [if_pos h8] at h
      cases h
    · rw [if_neg h8] at h
      have H := Aside0.mk (Option.some.inj h)
      clear h
      have hdec : decide ((l1.length : Int) > 20) = false := decide_eq_false (by omega)
      have ck := Aside0.mk (checkL_total (l0 :: l1) (by simp; omega) 1000 (by omega))
      have HF0 := Aside0.mk (Kd.C_F k27_heap HR0.out)
      have HF1 := Aside0.mk (Kd.C_F (Kd.heap_slice (e := 27) k27_heap) HR1.out)
      have HL8 : Aside0 (l1.length ≤ 8) := ⟨by omega⟩
      by_cases he : listE (l0 :: l1) = 0
      · have HE := Aside0.mk he
        rw [he] at ck
        rw [if_pos he] at H
        clear he
        go_enter Try.func76, Try.ntmps76
        go_wp2_with (first
          | ((with_reducible refine gate_dst (N := 18) rfl ?_); refine Kd.N_lit (Kd.slice 27 k27) _ 38 ?hg (N' := 18) ?hd (xs := ([l0] : List (List (S27)))) (inner := [.slice A0 l0.length c0]) (ok := (fun _ => True)) (okp := (fun k_ => k_ < w.heap.size)) ?hr ?hp (fun _ hk => trivial) trivial (Below.refl _ _) (Nat.le_refl _) (by simp) ?_; (case hd => rfl); (case hg => rfl); (case hr => first | (go_simp; done) | (go_simp; rfl)); (case hp => exact (Reps.one (show Kd.FK (Kd.slice 27 k27) _ _ l0 [.slice A0 l0.length c0] from (Kd.FK_slice_mk hc0 HF0.out)) (Reps.none _ _))); intro v663 w3 ho4 hb hg_ hnew_; have HO := Aside0.mk ho4; have HB2 := Aside0.mk hb; clear ho4 hb hg_ hnew_)
          | ((with_reducible refine gate_builtin (b := .append) (xs := #[.tmp 18, .tmp 19]) rfl ?_); at_builtin; refine Kd.N_append_rows (Kd.slice 27 k27) (w0 := w) w.heap.size rfl (.tmp 18) (.tmp 19) 95 38 (.slice none 0 0) 24 rfl Try.underlying95 info38 rfl (by decide) (by omega) v663 [l0] l1 A1 l1.length c1 (fun _ => True) (fun k_ => k_ < w.heap.size) rfl rfl HO.out ?aR ?aK (fun _ _ => trivial) HB2.out HB2.out.size ?aL ?_; (case aR => exact Kd.F_below HF1.out HB2.out); (case aK => exact fun k_ hk => ⟨trivial, fun e => by have := Kd.N_base HO.out k_ e.symm; omega⟩); (case aL => have := HL8.out; simp only [List.length_singleton]; omega); intro v672 w15 ho hb hg hat; have HB3 := Aside0.mk hb; obtain ⟨A5, c5, rfl, hc5, hC5⟩ := Kd.N_reads ho; have HC5 := Aside0.mk hC5; clear ho hb hg hat hC5)
          | (refine (spans_check.calls 1000 A5 c5 ([l0] ++ l1) _ _ HC5.out hc5 ck.out).mono ?_; rintro e w1 ⟨rfl, hb1⟩; have HB4 := Aside0.mk (HB3.out.trans (hb1.mono HB3.out.size)); clear hb1))
        refine (wpIn_wide (n := 7)).1 ?_
        have HRd0 := Aside0.mk (slice_lit (W := w1) (Kd.C_below HR0.out HB4.out) hc0)
        have HB5 : Aside0 (Below w.heap.size w (w1.alloc (.cells #[.slice A0 l0.length c0] 38))) := ⟨below_alloc HB4.out _⟩
        have HOk : Aside0 (boxB l0 = true ∧ ∀ b ∈ l1, boxB b = true ∧ b.length = l0.length) := ⟨(listE_ok HE.out l0 List.mem_cons_self).1, fun b hb => listE_ok HE.out b (List.mem_cons_of_mem _ hb)⟩
        gi_loopw [8, 29] (fun v8 v29 ws => ∃ (j : Nat), v29 = .int .i64 j ∧ Aside0 (j ≤ l1.length) ∧ Aside0 (Rd ws v8 (leftT l0 (l1.take j))) ∧ Aside0 (Below w.heap.size w ws)) (fun _ v29 _ => l1.length - (intOf v29).toNat)
        case atStart => exact ⟨0, rfl, ⟨Nat.zero_le _⟩, ⟨_, _, rfl, Nat.le_refl _, HRd0.out⟩, HB5⟩
        case round =>
          obtain ⟨j, rfl, HJ, HRd, HBs⟩ := hrel
          by_cases hj : j < l1.length
          · obtain ⟨ad, A2, c2, rfl, hcell2, hc2, hCb⟩ := at_L2 (Kd.C_below HR1.out HBs.out) (j : Int) (by omega) (by omega)
            rw [Int.toNat_natCast] at hcell2
            obtain ⟨b, hb⟩ : ∃ b, rd_L2 l1 (j : Int) = b := ⟨_, rfl⟩
            rw [hb] at hcell2 hc2 hCb
            have hgb : l1.getD j [] = b := by rw [← hb]; unfold rd_L2; rw [Int.toNat_natCast]
            have hmem : b ∈ l1 := by rw [← hgb]; exact getD_mem l1 [] j (by omega)
            have HBb : Aside0 (b ∈ l1 ∧ boxB b = true ∧ b.length = l0.length ∧ l1.take (j + 1) = l1.take j ++ [b]) := by
              refine ⟨hmem, (HOk.out.2 b hmem).1, (HOk.out.2 b hmem).2, ?_⟩
              rw [List.take_succ_eq_append_getElem (by omega), ← hgb]
              simp [List.getD_eq_getElem?_getD, List.getElem?_eq_getElem (show j < l1.length by omega)]
            have hall := leftT_ok (a := l0) (l := l1.take j) HOk.out.1 rfl (fun x hx => HOk.out.2 x (List.mem_of_mem_take hx))
            have hp6 := pow6 (n := (l1.take j).length) (by rw [List.length_take]; have := HL8.out; omega)
            have HCb := Aside0.mk hCb
            have HAll := Aside0.mk hall
            have HP6 : Aside0 ((leftT l0 (l1.take j)).length ≤ 100000000) := ⟨by have := hall.2; omega⟩
            obtain ⟨A7, c7, rfl, hc7, hC7⟩ := HRd.out
            have HC7 := Aside0.mk hC7
            have hdj : decide ((j : Int) < (l1.length : Int)) = true := decide_eq_true (by omega)
            have wj : IntKind.i64.wrap ((j : Int) + 1) = ((j + 1 : Nat) : Int) := by have := HL8.out; rw [wrI (by omega) (by omega)]; rfl
            clear hCb hall hp6 hC7 hb hgb hmem
            gi_wp2_with (refine ⟨trivial, ?_⟩; gi_at_call 123; refine (callsIn_wide.2 (rest.calls A7 c7 _ A2 c2 b HBb.out.2.1 (fun x hx => ⟨(HAll.out.1 x hx).1, (HAll.out.1 x hx).2.trans HBb.out.2.2.1.symm⟩) HP6.out _ HC7.out hc7 HCb.out hc2)).mono ?_; rintro e w2 ⟨v, rfl, hS, hb2⟩)
            refine ⟨⟨j + 1, by rw [Int.natCast_succ], ⟨by omega⟩, ⟨?_⟩, ⟨HBs.out.trans (hb2.mono HBs.out.size)⟩⟩, ?_⟩
            · rw [HBb.out.2.2.2, leftT_snoc]
              exact Rd.of_S hS
            · show l1.length - ((j : Int) + 1).toNat < l1.length - (j : Int).toNat
              omega
          · obtain rfl : j = l1.length := by have := HJ.out; omega
            have hdj : decide ((l1.length : Int) < (l1.length : Int)) = false := decide_eq_false (by omega)
            rw [List.take_length] at HRd
            have hall := leftT_ok (a := l0) (l := l1) HOk.out.1 rfl HOk.out.2
            have hp6 := pow6 (n := l1.length) HL8.out
            obtain ⟨L, hLe⟩ : ∃ L, leftT l0 l1 = L := ⟨_, rfl⟩
            have HG := H.out
            rw [hLe] at HRd hall HG
            have HAll := Aside0.mk hall.1
            have HLL : Aside0 (L.length ≤ 100000000) := ⟨by omega⟩
            obtain ⟨A7, c7, rfl, hc7, hC7⟩ := HRd.out
            have HC7 := Aside0.mk hC7
            cases HG
            clear hall hp6 hLe hC7
            gi_wp2
            refine (wpIn_wide (n := 7)).1 ?_
            gi_wp2
            gi_loopw [4, 39] (fun v4 v39 wt => ∃ (m : Nat), v39 = .int .i64 m ∧ Aside0 (m ≤ L.length) ∧ Aside0 (Kd.R (Kd.int .i64) 3 wt w.heap.size (fun _ => True) v4 (firstT ((L.take m).map lowsT)) ∧ (m = 0 → v4 = .slice none 0 0)) ∧ Aside0 (Below w.heap.size w wt) ∧ Aside0 (Below wr.heap.size wr wt)) (fun _ v39 _ => L.length - (intOf v39).toNat)
            case atStart => exact ⟨0, rfl, ⟨Nat.zero_le _⟩, ⟨Kd.R_nil _ _ _ _ _, fun _ => rfl⟩, HBs, ⟨Below.refl _ _⟩⟩
            case round =>
              obtain ⟨m, rfl, HM, HP, HBt, HBu⟩ := hrel
              by_cases hm2 : m < L.length
              · obtain ⟨ad7, A8, c8, rfl, hcell8, hc8, hCx⟩ := at_L2 (Kd.C_below HC7.out HBu.out) (m : Int) (by omega) (by omega)
                rw [Int.toNat_natCast] at hcell8
                obtain ⟨x, hx⟩ : ∃ x, rd_L2 L (m : Int) = x := ⟨_, rfl⟩
                rw [hx] at hcell8 hc8 hCx
                have hgx : L.getD m [] = x := by rw [← hx]; unfold rd_L2; rw [Int.toNat_natCast]
                have HX : Aside0 (boxB x = true ∧ x.length = l0.length ∧ L.take (m + 1) = L.take m ++ [x]) := by
                  have h1 := HAll.out x (by rw [← hgx]; exact getD_mem L [] m hm2)
                  refine ⟨h1.1, h1.2, ?_⟩
                  rw [List.take_succ_eq_append_getElem hm2, ← hgx]
                  simp [List.getD_eq_getElem?_getD, List.getElem?_eq_getElem hm2]
                have HCx := Aside0.mk hCx
                have hx3 := Aside0.mk (boxB_size HX.out.1)
                have ckc := Aside0.mk (corner_total x (by have := hx3.out; omega) 1000 (by have := hx3.out; omega))
                clear hCx hx hgx
                have hdm : decide ((m : Int) < (L.length : Int)) = true := decide_eq_true (by omega)
                have wm : IntKind.i64.wrap ((m : Int) + 1) = ((m + 1 : Nat) : Int) := by have := HLL.out; rw [wrI (by omega) (by omega)]; rfl
                by_cases h0 : m = 0
                · obtain rfl := HP.out.2 h0
                  have H0 := Aside0.mk h0
                  clear h0
                  gi_wp2_with (first
                    | (refine ⟨trivial, ?_⟩; gi_at_call 139; refine (callsIn_wide.2 (spans_corner.calls 1000 A8 c8 x _ _ HCx.out hc8 ckc.out)).mono ?_; rintro e w2 ⟨v, rfl, hR, hb2⟩)
                    | (refine ⟨trivial, ?_⟩))
                  refine ⟨⟨m + 1, by rw [Int.natCast_succ], ⟨by omega⟩, ⟨?_, fun h => absurd h (by omega)⟩, ⟨HBt.out.trans (hb2.mono HBt.out.size)⟩, ⟨HBu.out.trans (hb2.mono HBu.out.size)⟩⟩, ?_⟩
                  · rw [HX.out.2.2, H0.out, List.take_zero]
                    exact Kd.R_lower hR HBt.out.size
                  · show L.length - ((m : Int) + 1).toNat < L.length - (m : Int).toNat
                    omega
                · have hne : ((L.take m).map lowsT) ≠ [] := by
                    intro e
                    have := congrArg List.length e
                    rw [List.length_map, List.length_take, List.length_nil] at this
                    omega
                  have hfm : (firstT ((L.take m).map lowsT)).length = l0.length := by
                    obtain ⟨y, hy, e⟩ := List.mem_map.1 (firstT_mem _ hne)
                    rw [← e, lows_len]
                    exact (HAll.out y (List.mem_of_mem_take hy)).2
                  have HNe := Aside0.mk hne
                  obtain ⟨P0, hP0⟩ : ∃ P0, firstT ((L.take m).map lowsT) = P0 := ⟨_, rfl⟩
                  have HPe := Aside0.mk hP0
                  rw [hP0] at hfm HP
                  obtain ⟨g, cap, rfl, hg1, hg2, cells, hcell⟩ := Kd.R_form HP.out.1 (by have := hx3.out; have := HX.out; omega)
                  have HFm := Aside0.mk hfm
                  obtain ⟨cc, hcc, hcl⟩ := cmpL_total (lowsT x) P0 (by rw [lows_len]; have := hx3.out; omega) (by rw [lows_len, hfm]; exact HX.out.2.1.symm) 1000 (by rw [lows_len]; have := hx3.out; omega)
                  have HCc := Aside0.mk hcc
                  have HCl := Aside0.mk hcl
                  have HPr := Aside0.mk (Kd.R_reads' HP.out.1)
                  clear hne hP0 hfm hcell hcc hcl h0
                  by_cases hlt : cc < 0
                  · have hdc : decide (cc < 0) = true := decide_eq_true hlt
                    have HLt := Aside0.mk hlt
                    clear hlt
                    gi_wp2_with (first
                      | (refine ⟨trivial, ?_⟩; gi_at_call 139; refine (callsIn_wide.2 (spans_corner.calls 1000 A8 c8 x _ _ HCx.out hc8 ckc.out)).mono ?_; rintro e w2 ⟨v, rfl, hR, hb2⟩; obtain ⟨A9, c9, rfl⟩ := Kd.R_slice hR; have HR2 := Aside0.mk hR; have HB2' := Aside0.mk hb2; have HPr2 := Aside0.mk (Kd.R_reads' hR); clear hR hb2)
                      | (refine ⟨trivial, ?_⟩; gi_at_call 140; refine (callsIn_wide.2 (slices_Compare_int_int.calls 1000 A9 c9 (lowsT x) (some ⟨g, 0, none⟩) cap P0 cc _ HPr2.out.2.2 HPr2.out.2.1 (Kd.C_below HPr.out.2.2 HB2'.out) HPr.out.2.1 HCc.out)).mono ?_; rintro e w3 ⟨rfl, hdr⟩))
                    have hb3 := HB2'.out.trans ((Drawn0.below hdr).mono HB2'.out.size)
                    refine ⟨⟨m + 1, by rw [Int.natCast_succ], ⟨by omega⟩, ⟨?_, fun h => absurd h (by omega)⟩, ⟨HBt.out.trans (hb3.mono HBt.out.size)⟩, ⟨HBu.out.trans (hb3.mono HBu.out.size)⟩⟩, ?_⟩
                    · rw [HX.out.2.2, List.map_append, List.map_cons, List.map_nil, firstT_snoc _ _ HNe.out, HPe.out, HCl.out.1 HLt.out, if_pos rfl]
                      exact Kd.R_below (Kd.R_lower HR2.out HBt.out.size) (Drawn0.below hdr)
                    · show L.length - ((m : Int) + 1).toNat < L.length - (m : Int).toNat
                      omega
                  · have hdc : decide (cc < 0) = false := decide_eq_false hlt
                    have HLt := Aside0.mk hlt
                    clear hlt
                    gi_wp2_with (first
                      | (refine ⟨trivial, ?_⟩; gi_at_call 139; refine (callsIn_wide.2 (spans_corner.calls 1000 A8 c8 x _ _ HCx.out hc8 ckc.out)).mono ?_; rintro e w2 ⟨v, rfl, hR, hb2⟩; obtain ⟨A9, c9, rfl⟩ := Kd.R_slice hR; have HR2 := Aside0.mk hR; have HB2' := Aside0.mk hb2; have HPr2 := Aside0.mk (Kd.R_reads' hR); clear hR hb2)
                      | (refine ⟨trivial, ?_⟩; gi_at_call 140; refine (callsIn_wide.2 (slices_Compare_int_int.calls 1000 A9 c9 (lowsT x) (some ⟨g, 0, none⟩) cap P0 cc _ HPr2.out.2.2 HPr2.out.2.1 (Kd.C_below HPr.out.2.2 HB2'.out) HPr.out.2.1 HCc.out)).mono ?_; rintro e w3 ⟨rfl, hdr⟩))
                    have hb3 := HB2'.out.trans ((Drawn0.below hdr).mono HB2'.out.size)
                    refine ⟨⟨m + 1, by rw [Int.natCast_succ], ⟨by omega⟩, ⟨?_, fun h => absurd h (by omega)⟩, ⟨HBt.out.trans (hb3.mono HBt.out.size)⟩, ⟨HBu.out.trans (hb3.mono HBu.out.size)⟩⟩, ?_⟩
                    · rw [HX.out.2.2, List.map_append, List.map_cons, List.map_nil, firstT_snoc _ _ HNe.out, HPe.out, if_neg (fun h => by have h1 := HLt.out; have h2 := HCl.out.2 h; omega)]
                      exact Kd.R_below HP.out.1 hb3
                    · show L.length - ((m : Int) + 1).toNat < L.length - (m : Int).toNat
                      omega
              · obtain rfl : m = L.length := by have := HM.out; omega
                have hdm : decide ((L.length : Int) < (L.length : Int)) = false := decide_eq_false (by omega)
                rw [List.take_length] at HP
                by_cases h0 : L = []
                · subst h0
                  obtain rfl := HP.out.2 rfl
                  gi_wp2
                  refine bodyPost_ret (results_list (rs := [.tmp 4, .tmp 5, .tmp 6]) rfl (by simp) (.tmp (.tmp (.tmp .nil)))) rfl ?_
                  exact ⟨_, rfl, HP.out.1, HBt.out⟩
                · have hne : (L.map lowsT) ≠ [] := by simpa using h0
                  have hfm : (firstT (L.map lowsT)).length = l0.length := by
                    obtain ⟨y, hy, e⟩ := List.mem_map.1 (firstT_mem _ hne)
                    rw [← e, lows_len]
                    exact (HAll.out y hy).2
                  have h1 := boxB_size HOk.out.1
                  have hie : L.isEmpty = false := by
                    cases L with
                    | nil => exact absurd rfl h0
                    | cons a l => rfl
                  obtain ⟨P0, hP0⟩ : ∃ P0, firstT (L.map lowsT) = P0 := ⟨_, rfl⟩
                  rw [hP0] at hfm HP
                  have HPe := Aside0.mk hP0
                  have HIe := Aside0.mk hie
                  obtain ⟨g, cap, rfl, hg1, hg2, cells, hcell⟩ := Kd.R_form HP.out.1 (by omega)
                  clear hne hP0 hfm hcell h0 h1 hie
                  gi_wp2
                  refine bodyPost_ret (results_list (rs := [.tmp 4, .tmp 5, .tmp 6]) rfl (by simp) (.tmp (.tmp (.tmp .nil)))) rfl ?_
                  rw [HPe.out, HIe.out]
                  exact ⟨_, rfl, HP.out.1, HBt.out⟩
      · have hne : (listE (l0 :: l1) != 0) = true := by simpa using he
        rw [if_neg he] at H
        cases H.out
        clear he
        go_enter Try.func76, Try.ntmps76
        go_wp2_with (first
          | ((with_reducible refine gate_dst (N := 18) rfl ?_); refine Kd.N_lit (Kd.slice 27 k27) _ 38 ?hg (N' := 18) ?hd (xs := ([l0] : List (List (S27)))) (inner := [.slice A0 l0.length c0]) (ok := (fun _ => True)) (okp := (fun k_ => k_ < w.heap.size)) ?hr ?hp (fun _ hk => trivial) trivial (Below.refl _ _) (Nat.le_refl _) (by simp) ?_; (case hd => rfl); (case hg => rfl); (case hr => first | (go_simp; done) | (go_simp; rfl)); (case hp => exact (Reps.one (show Kd.FK (Kd.slice 27 k27) _ _ l0 [.slice A0 l0.length c0] from (Kd.FK_slice_mk hc0 HF0.out)) (Reps.none _ _))); intro v663 w3 ho4 hb hg_ hnew_; have HO := Aside0.mk ho4; have HB2 := Aside0.mk hb; clear ho4 hb hg_ hnew_)
          | ((with_reducible refine gate_builtin (b := .append) (xs := #[.tmp 18, .tmp 19]) rfl ?_); at_builtin; refine Kd.N_append_rows (Kd.slice 27 k27) (w0 := w) w.heap.size rfl (.tmp 18) (.tmp 19) 95 38 (.slice none 0 0) 24 rfl Try.underlying95 info38 rfl (by decide) (by omega) v663 [l0] l1 A1 l1.length c1 (fun _ => True) (fun k_ => k_ < w.heap.size) rfl rfl HO.out ?aR ?aK (fun _ _ => trivial) HB2.out HB2.out.size ?aL ?_; (case aR => exact Kd.F_below HF1.out HB2.out); (case aK => exact fun k_ hk => ⟨trivial, fun e => by have := Kd.N_base HO.out k_ e.symm; omega⟩); (case aL => have := HL8.out; simp only [List.length_singleton]; omega); intro v672 w15 ho hb hg hat; have HB3 := Aside0.mk hb; obtain ⟨A5, c5, rfl, hc5, hC5⟩ := Kd.N_reads ho; have HC5 := Aside0.mk hC5; clear ho hb hg hat hC5)
          | (refine (spans_check.calls 1000 A5 c5 ([l0] ++ l1) _ _ HC5.out hc5 ck.out).mono ?_; rintro e w1 ⟨rfl, hb1⟩; have HB4 := Aside0.mk (HB3.out.trans (hb1.mono HB3.out.size)); clear hb1))
        refine bodyPost_ret (results_list (rs := [.tmp 4, .tmp 5, .tmp 6]) rfl (by simp) (.tmp (.tmp (.tmp .nil)))) rfl ?_
        exact ⟨_, rfl, Kd.R_nil _ _ _ _ _, HB4.out⟩
end Go.Proofs.Yteodlmgmmpkpoaa.PS
end
section
namespace Go.Proofs.Yteodlmgmmpkpoaa.PS
open Go.RowKit Go.Proofs.YteodlmgmmpkpoaaW.PrintWords Go.Proofs.YteodlmgmmpkpoaaW.PrintLast Go.Proofs.YteodlmgmmpkpoaaW.PrintMore
attribute [local go_sem] max2_int min2_int max_two min_two max_three min_three max_four min_four   -- for this text's walks alone
set_option linter.unusedVariables false
set_option linter.unusedSimpArgs false
mutual
def swashplatelaw01_before.l0 : Nat → List Int → List Int → Int → Option (Bool)
 | 0, _, _, _ => none
 | k + 1, x0, x1, x5 => if x5 < (x0.length : Int) then (swashplatelaw01_before.j1 k x0 x1 x5 (decide (x5 < (x1.length : Int)))) else (swashplatelaw01_before.j1 k x0 x1 x5 false)
def swashplatelaw01_before.j1 : Nat → List Int → List Int → Int → Bool → Option (Bool)
 | 0, _, _, _, _ => none
 | k + 1, x0, x1, x5, x15 => if x15 = true then (if 0 ≤ x5 then (if x5 < (x0.length : Int) then (if x5 < (x1.length : Int) then (if (rd x0 x5) = (rd x1 x5) then (swashplatelaw01_before.l0 k x0 x1 (wrap64 (x5 + 1))) else (some (decide ((rd x0 x5) < (rd x1 x5))))) else (none)) else (none)) else (none)) else (some false)
end
def swashplatelaw01_before.f (k : Nat) (l0 : List Int) (l1 : List Int) : Option (Bool) := swashplatelaw01_before.l0 k l0 l1 0
set_option maxHeartbeats 8000000 in
set_option maxRecDepth 100000 in
theorem swashplatelaw01_before.calls (k : Nat) (A0 : Option Addr) (c0 : Nat) (l0 : List Int) (A1 : Option Addr) (c1 : Nat) (l1 : List Int) (r : Bool) (w : World) (hr0 : Kd.C (Kd.int .i64) w A0 l0.length l0) (hc0 : l0.length ≤ c0) (hr1 : Kd.C (Kd.int .i64) w A1 l1.length l1) (hc1 : l1.length ≤ c1) (h : swashplatelaw01_before.f k l0 l1 = some r) :
  Calls Try.prog 80 #[.slice A0 l0.length c0, .slice A1 l1.length c1] w fun e w' => e = .returned (.bool r) ∧ Drawn0 w w' := by
 have HR0 := Aside0.mk hr0
 have HC0 := Aside0.mk hc0
 clear hr0 hc0
 have HR1 := Aside0.mk hr1
 have HC1 := Aside0.mk hc1
 clear hr1 hc1
 have H : (swashplatelaw01_before.l0 k l0 l1 0) = some r := h
 clear h
 have H' := Aside0.mk H
 clear H
 go_enter Try.func80, Try.ntmps80
 go_wp2
 go_loopg [5] k (fun kq v5 w' => ∃ (x5_1 : Int), v5 = .int .i64 x5_1 ∧ Aside0 (swashplatelaw01_before.l0 kq l0 l1 x5_1 = some r) ∧ Aside0 (kq ≤ k) ∧ Drawn0 w w')
 case atStart => exact ⟨(0), (by first | rfl | (simp; done) | (simp [*]; done)), H', ⟨Nat.le_refl _⟩, by repeat (first | exact Drawn0.refl _ | apply Drawn0.step)⟩
 case round =>
  clear H'
  try clear c1
  try clear p2
  obtain ⟨x5_1, rfl, HA, HK1, ⟨m1, rfl⟩⟩ := hrel
  cases gk with
  | zero => exact absurd HA.out (by simp [swashplatelaw01_before.l0])
  | succ k1 =>
   have H := HA.out
   clear HA
   simp only [swashplatelaw01_before.l0] at H
   have HC3 := Aside0.mk H
   clear H
   go_upto_region 2 with (fail)
   go_cut [15] (fun v15 wc => ∃ (kq : Nat) (x15_2 : Bool), v15 = .bool x15_2 ∧ Aside0 (swashplatelaw01_before.j1 kq l0 l1 x5_1 x15_2 = some r) ∧ Aside0 (kq ≤ k1) ∧ Drawn0 w wc)
   case first =>
    have H := HC3.out
    clear HC3
    by_cases c4 : x5_1 < (l0.length : Int)
    ·
     rw [if_pos c4] at H
     have c4b0 : decide (x5_1 < (l0.length : Int)) = true := decide_eq_true c4
     clear c4
     (first | rw [c4b0] | (simp only [i64_w, i32_w]; rw [c4b0]) | skip)
     have H' := Aside0.mk H
     clear H
     go_wp2
     go_meet
     case rel => exact ⟨_, (decide (x5_1 < (l1.length : Int))), (by first | rfl | (simp; done) | (simp [*]; done)), H', ⟨by have := HK1.out; first | omega | exact Nat.le_refl _⟩, by repeat (first | exact Drawn0.refl _ | apply Drawn0.step)⟩
    ·
     rw [if_neg c4] at H
     have c4b0 : decide (x5_1 < (l0.length : Int)) = false := decide_eq_false c4
     clear c4
     (first | rw [c4b0] | (simp only [i64_w, i32_w]; rw [c4b0]) | skip)
     have H' := Aside0.mk H
     clear H
     go_wp2
     go_meet
     case rel => exact ⟨_, (false), (by first | rfl | (simp; done) | (simp [*]; done)), H', ⟨by have := HK1.out; first | omega | exact Nat.le_refl _⟩, by repeat (first | exact Drawn0.refl _ | apply Drawn0.step)⟩
   case rest =>
    clear HC3
    try clear c1
    try clear p2
    try clear c4
    try clear c4b0
    try clear p2
    obtain ⟨kq, x15_2, rfl, HA, HJ2, ⟨mc2, rfl⟩⟩ := hcut
    cases kq with
    | zero => exact absurd HA.out (by simp [swashplatelaw01_before.j1])
    | succ kj2 =>
     have H := HA.out
     clear HA
     simp only [swashplatelaw01_before.j1] at H
     by_cases c5 : x15_2 = true
     ·
      subst c5
      have H1 : (if 0 ≤ x5_1 then (if x5_1 < (l0.length : Int) then (if x5_1 < (l1.length : Int) then (if (rd l0 x5_1) = (rd l1 x5_1) then (swashplatelaw01_before.l0 kj2 l0 l1 (wrap64 (x5_1 + 1))) else (some (decide ((rd l0 x5_1) < (rd l1 x5_1))))) else (none)) else (none)) else (none)) = some r := by rw [if_pos rfl] at H; exact H
      clear H
      have H := H1
      clear H1
      by_cases c6 : 0 ≤ x5_1
      ·
       rw [if_pos c6] at H
       have c6b0 : decide (0 ≤ x5_1) = true := decide_eq_true c6
       clear c6
       by_cases c7 : x5_1 < (l0.length : Int)
       ·
        rw [if_pos c7] at H
        have c7b0 : decide (x5_1 < (l0.length : Int)) = true := decide_eq_true c7
        clear c7
        by_cases c8 : x5_1 < (l1.length : Int)
        ·
         rw [if_pos c8] at H
         have c8b0 : decide (x5_1 < (l1.length : Int)) = true := decide_eq_true c8
         clear c8
         by_cases c9 : (rd l0 x5_1) = (rd l1 x5_1)
         ·
          rw [if_pos c9] at H
          have c9b0 : ((rd l0 x5_1) == (rd l1 x5_1)) = true := beq_iff_eq.mpr c9
          have c9b1 : ((rd l0 x5_1) != (rd l1 x5_1)) = false := bne_eq_false_iff_eq.mpr c9
          clear c9
          have H' := Aside0.mk H
          clear H
          have p788 : 0 ≤ (x5_1 : Int) := of_decide_eq_true (by first | (with_reducible assumption) | assumption)
          have q788 : x5_1 < (l0.length : Int) := of_decide_eq_true (by first | (with_reducible assumption) | assumption)
          obtain ⟨ad788, e788, hx788_0⟩ := Kd.at_int HR0.out x5_1 p788 q788
          cases e788
          replace p788 := eq_true p788
          replace q788 := eq_true q788
          have p789 : 0 ≤ (x5_1 : Int) := of_decide_eq_true (by first | (with_reducible assumption) | assumption)
          have q789 : x5_1 < (l1.length : Int) := of_decide_eq_true (by first | (with_reducible assumption) | assumption)
          obtain ⟨ad789, e789, hx789_0⟩ := Kd.at_int HR1.out x5_1 p789 q789
          cases e789
          replace p789 := eq_true p789
          replace q789 := eq_true q789
          go_wp2
          repeat (go_quiet (fail); try go_wp2)
          go_roundg kj2
          case measure => have := HK1.out; have := HJ2.out; omega
          case rel => exact ⟨(wrap64 (x5_1 + 1)), (by first | rfl | (simp; done) | (simp [*]; done)), H', ⟨by have := HK1.out; have := HJ2.out; omega⟩, by repeat (first | exact Drawn0.refl _ | apply Drawn0.step)⟩
         ·
          rw [if_neg c9] at H
          have c9b0 : ((rd l0 x5_1) == (rd l1 x5_1)) = false := beq_eq_false_iff_ne.mpr c9
          have c9b1 : ((rd l0 x5_1) != (rd l1 x5_1)) = true := bne_iff_ne.mpr c9
          obtain rfl := Option.some.inj H
          have p788 : 0 ≤ (x5_1 : Int) := of_decide_eq_true (by first | (with_reducible assumption) | assumption)
          have q788 : x5_1 < (l0.length : Int) := of_decide_eq_true (by first | (with_reducible assumption) | assumption)
          obtain ⟨ad788, e788, hx788_0⟩ := Kd.at_int HR0.out x5_1 p788 q788
          cases e788
          replace p788 := eq_true p788
          replace q788 := eq_true q788
          have p789 : 0 ≤ (x5_1 : Int) := of_decide_eq_true (by first | (with_reducible assumption) | assumption)
          have q789 : x5_1 < (l1.length : Int) := of_decide_eq_true (by first | (with_reducible assumption) | assumption)
          obtain ⟨ad789, e789, hx789_0⟩ := Kd.at_int HR1.out x5_1 p789 q789
          cases e789
          replace p789 := eq_true p789
          replace q789 := eq_true q789
          have p790 : 0 ≤ (x5_1 : Int) := of_decide_eq_true (by first | (with_reducible assumption) | assumption)
          have q790 : x5_1 < (l0.length : Int) := of_decide_eq_true (by first | (with_reducible assumption) | assumption)
          obtain ⟨ad790, e790, hx790_0⟩ := Kd.at_int HR0.out x5_1 p790 q790
          obtain rfl : ad788 = ad790 := (by injection e790)
          replace p790 := eq_true p790
          replace q790 := eq_true q790
          have p791 : 0 ≤ (x5_1 : Int) := of_decide_eq_true (by first | (with_reducible assumption) | assumption)
          have q791 : x5_1 < (l1.length : Int) := of_decide_eq_true (by first | (with_reducible assumption) | assumption)
          obtain ⟨ad791, e791, hx791_0⟩ := Kd.at_int HR1.out x5_1 p791 q791
          obtain rfl : ad789 = ad791 := (by injection e791)
          replace p791 := eq_true p791
          replace q791 := eq_true q791
          go_wp2
          repeat (go_quiet (fail); try go_wp2)
          go_ret
          exact ⟨by first | rfl | (simp; done) | (simp [*]; done), by repeat (first | exact Drawn0.refl _ | apply Drawn0.step)⟩
        ·
         rw [if_neg c8] at H
         exact absurd H (by simp)
       ·
        rw [if_neg c7] at H
        exact absurd H (by simp)
      ·
       rw [if_neg c6] at H
       exact absurd H (by simp)
     ·
      replace c5 := Bool.eq_false_iff.mpr c5
      subst c5
      have H1 : (some false) = some r := by rw [if_neg (show ¬ (false = true) by decide)] at H; exact H
      clear H
      have H := H1
      clear H1
      obtain rfl := Option.some.inj H
      go_wp2
      go_ret
      exact ⟨by first | rfl | (simp; done) | (simp [*]; done), by repeat (first | exact Drawn0.refl _ | apply Drawn0.step)⟩
end Go.Proofs.Yteodlmgmmpkpoaa.PS
end
section
namespace Go.Proofs.Yteodlmgmmpkpoaa.PS
open Go.RowKit Go.Proofs.YteodlmgmmpkpoaaW.PrintWords Go.Proofs.YteodlmgmmpkpoaaW.PrintLast Go.Proofs.YteodlmgmmpkpoaaW.PrintMore
attribute [local go_sem] max2_int min2_int max_two min_two max_three min_three max_four min_four   -- for this text's walks alone
set_option linter.unusedVariables false
set_option linter.unusedSimpArgs false
def swashplatelaw01_inOne.l0 : Nat → List Int → List (List (S27)) → Int → Option (Bool)
 | 0, _, _, _ => none
 | k + 1, x0, x1, x5 => if x5 < (x1.length : Int) then (if 0 ≤ x5 then ((swashplateref01_In.f k x0 (rd_L2 x1 x5)).bind fun t787 => (if t787 = true then (some true) else (swashplatelaw01_inOne.l0 k x0 x1 (wrap64 (x5 + 1))))) else (none)) else (some false)
def swashplatelaw01_inOne.f (k : Nat) (l0 : List Int) (l1 : List (List (S27))) : Option (Bool) := swashplatelaw01_inOne.l0 k l0 l1 0
set_option maxHeartbeats 8000000 in
set_option maxRecDepth 100000 in
theorem swashplatelaw01_inOne.calls (k : Nat) (A0 : Option Addr) (c0 : Nat) (l0 : List Int) (A1 : Option Addr) (c1 : Nat) (l1 : List (List (S27))) (r : Bool) (w : World) (hr0 : Kd.C (Kd.int .i64) w A0 l0.length l0) (hc0 : l0.length ≤ c0) (hr1 : Kd.C (Kd.slice 27 k27) w A1 l1.length l1) (hc1 : l1.length ≤ c1) (h : swashplatelaw01_inOne.f k l0 l1 = some r) :
  Calls Try.prog 79 #[.slice A0 l0.length c0, .slice A1 l1.length c1] w fun e w' => e = .returned (.bool r) ∧ Drawn0 w w' := by
 have HR0 := Aside0.mk hr0
 have HC0 := Aside0.mk hc0
 clear hr0 hc0
 have HR1 := Aside0.mk hr1
 have HC1 := Aside0.mk hc1
 clear hr1 hc1
 have H : (swashplatelaw01_inOne.l0 k l0 l1 0) = some r := h
 clear h
 have H' := Aside0.mk H
 clear H
 go_enter Try.func79, Try.ntmps79
 go_wp2
 go_loopg [5] k (fun kq v5 w' => ∃ (x5_1 : Int), v5 = .int .i64 x5_1 ∧ Aside0 (swashplatelaw01_inOne.l0 kq l0 l1 x5_1 = some r) ∧ Aside0 (kq ≤ k) ∧ Drawn0 w w')
 case atStart => exact ⟨(0), (by first | rfl | (simp; done) | (simp [*]; done)), H', ⟨Nat.le_refl _⟩, by repeat (first | exact Drawn0.refl _ | apply Drawn0.step)⟩
 case round =>
  clear H'
  try clear c1
  try clear p2
  obtain ⟨x5_1, rfl, HA, HK1, ⟨m1, rfl⟩⟩ := hrel
  cases gk with
  | zero => exact absurd HA.out (by simp [swashplatelaw01_inOne.l0])
  | succ k1 =>
   have H := HA.out
   clear HA
   simp only [swashplatelaw01_inOne.l0] at H
   by_cases c3 : x5_1 < (l1.length : Int)
   ·
    rw [if_pos c3] at H
    have c3b0 : decide (x5_1 < (l1.length : Int)) = true := decide_eq_true c3
    clear c3
    by_cases c4 : 0 ≤ x5_1
    ·
     rw [if_pos c4] at H
     have c4b0 : decide (0 ≤ x5_1) = true := decide_eq_true c4
     clear c4
     replace H := Option.bind_eq_some_iff.mp H
     obtain ⟨t787, A50, H⟩ := H
     replace H : (if t787 = true then (some true) else (swashplatelaw01_inOne.l0 k1 l0 l1 (wrap64 (x5_1 + 1)))) = some r := H
     have A5 := Aside0.mk A50
     clear A50
     by_cases c6 : t787 = true
     ·
      subst c6
      have H1 : (some true) = some r := by rw [if_pos rfl] at H; exact H
      clear H
      have H := H1
      clear H1
      obtain rfl := Option.some.inj H
      have p786 : 0 ≤ (x5_1 : Int) := of_decide_eq_true (by first | (with_reducible assumption) | assumption)
      have q786 : x5_1 < (l1.length : Int) := of_decide_eq_true (by first | (with_reducible assumption) | assumption)
      obtain ⟨ad786, A786_0, c786_0, e786, hx786_0, hl786_0, hi786_0⟩ := at_L2 HR1.out x5_1 p786 q786
      cases e786
      have HR786_0 := Aside0.mk hi786_0
      have HC786_0 := Aside0.mk hl786_0
      clear hi786_0 hl786_0
      replace p786 := eq_true p786
      replace q786 := eq_true q786
      go_wp2_with (first | ((with_reducible refine gate_callee (f := 63) rfl ?_); refine goesL_ (some 17) rfl rfl Try.func63 (by kernel_rfl) rfl #[.slice A0 l0.length c0, .slice A786_0 (rd_L2 l1 x5_1).length c786_0] rfl (by (try simp only [List.map_toArray, List.map_cons, List.map_nil]); first | done | rfl | (simp only [List.length_drop, List.length_take]; rfl)) ?_; (with_reducible refine (swashplateref01_In.calls k1 _ _ l0 _ _ (rd_L2 l1 x5_1) true _ ?side1 ?side2 ?side3 ?side4 A5.out).mono ?_); (case side1 => exact cr_ HR0.out); (case side2 => exact HC0.out); (case side3 => exact cr_ HR786_0.out); (case side4 => exact HC786_0.out); rintro e w' ⟨rfl, ⟨nd, rfl⟩⟩; refine ⟨_, rfl, ?_⟩))
      go_ret
      exact ⟨by first | rfl | (simp; done) | (simp [*]; done), by repeat (first | exact Drawn0.refl _ | apply Drawn0.step)⟩
     ·
      replace c6 := Bool.eq_false_iff.mpr c6
      subst c6
      have H1 : (swashplatelaw01_inOne.l0 k1 l0 l1 (wrap64 (x5_1 + 1))) = some r := by rw [if_neg (show ¬ (false = true) by decide)] at H; exact H
      clear H
      have H := H1
      clear H1
      have H' := Aside0.mk H
      clear H
      have p786 : 0 ≤ (x5_1 : Int) := of_decide_eq_true (by first | (with_reducible assumption) | assumption)
      have q786 : x5_1 < (l1.length : Int) := of_decide_eq_true (by first | (with_reducible assumption) | assumption)
      obtain ⟨ad786, A786_0, c786_0, e786, hx786_0, hl786_0, hi786_0⟩ := at_L2 HR1.out x5_1 p786 q786
      cases e786
      have HR786_0 := Aside0.mk hi786_0
      have HC786_0 := Aside0.mk hl786_0
      clear hi786_0 hl786_0
      replace p786 := eq_true p786
      replace q786 := eq_true q786
      go_wp2_with (first | ((with_reducible refine gate_callee (f := 63) rfl ?_); refine goesL_ (some 17) rfl rfl Try.func63 (by kernel_rfl) rfl #[.slice A0 l0.length c0, .slice A786_0 (rd_L2 l1 x5_1).length c786_0] rfl (by (try simp only [List.map_toArray, List.map_cons, List.map_nil]); first | done | rfl | (simp only [List.length_drop, List.length_take]; rfl)) ?_; (with_reducible refine (swashplateref01_In.calls k1 _ _ l0 _ _ (rd_L2 l1 x5_1) false _ ?side1 ?side2 ?side3 ?side4 A5.out).mono ?_); (case side1 => exact cr_ HR0.out); (case side2 => exact HC0.out); (case side3 => exact cr_ HR786_0.out); (case side4 => exact HC786_0.out); rintro e w' ⟨rfl, ⟨nd, rfl⟩⟩; refine ⟨_, rfl, ?_⟩))
      go_roundg k1
      case measure => have := HK1.out; omega
      case rel => exact ⟨(wrap64 (x5_1 + 1)), (by first | rfl | (simp; done) | (simp [*]; done)), H', ⟨by have := HK1.out; omega⟩, by repeat (first | exact Drawn0.refl _ | apply Drawn0.step)⟩
    ·
     rw [if_neg c4] at H
     exact absurd H (by simp)
   ·
    rw [if_neg c3] at H
    have c3b0 : decide (x5_1 < (l1.length : Int)) = false := decide_eq_false c3
    clear c3
    obtain rfl := Option.some.inj H
    go_wp2
    go_ret
    exact ⟨by first | rfl | (simp; done) | (simp [*]; done), by repeat (first | exact Drawn0.refl _ | apply Drawn0.step)⟩
end Go.Proofs.Yteodlmgmmpkpoaa.PS
end
section
namespace Go.Proofs.Yteodlmgmmpkpoaa.PS
open Go.RowKit Go.Proofs.YteodlmgmmpkpoaaW.PrintWords Go.Proofs.YteodlmgmmpkpoaaW.PrintLast Go.Proofs.YteodlmgmmpkpoaaW.PrintMore
attribute [local go_sem] max2_int min2_int max_two min_two max_three min_three max_four min_four   -- for this text's walks alone
set_option linter.unusedVariables false
set_option linter.unusedSimpArgs false
mutual
def swashplatelaw01_SpansCovered.j0 : Nat → List (S27) → List (List (S27)) → List Int → Bool → Option (Bool)
 | 0, _, _, _, _ => none
 | k + 1, x0, x1, x2, x33 => if x33 = true then ((swashplatelaw01_works.f k).bind fun t793 => (some t793)) else (swashplatelaw01_SpansCovered.l0 k x0 x1 x2 0)
def swashplatelaw01_SpansCovered.l0 : Nat → List (S27) → List (List (S27)) → List Int → Int → Option (Bool)
 | 0, _, _, _, _ => none
 | k + 1, x0, x1, x2, x7 => if x7 < (x1.length : Int) then (if 0 ≤ x7 then ((swashplateref01_Check.f k (rd_L2 x1 x7)).bind fun t795 => (if t795 = 0 then (if ((rd_L2 x1 x7).length : Int) = (x0.length : Int) then (swashplatelaw01_SpansCovered.l0 k x0 x1 x2 (wrap64 (x7 + 1))) else ((swashplatelaw01_works.f k).bind fun t797 => (some t797))) else ((swashplatelaw01_works.f k).bind fun t798 => (some t798)))) else (none)) else ((swashplatelaw01_box.f x0).bind fun t799 => ((swashplateref01_CopyBoxes.f k x1).bind fun t802 => ((spans_CoversP.f t799 t802).bind fun bt805 => (if bt805.2.2 = 0 then (if bt805.2.1 = true then (swashplatelaw01_SpansCovered.j2 k x0 x1 x2 bt805.1 bt805.2.1 false) else (if (bt805.1.length : Int) = (x0.length : Int) then ((swashplateref01_In.f k bt805.1 x0).bind fun t810 => (if t810 = true then ((swashplatelaw01_inOne.f k bt805.1 x1).bind fun t811 => (swashplatelaw01_SpansCovered.j2 k x0 x1 x2 bt805.1 bt805.2.1 t811)) else (swashplatelaw01_SpansCovered.j2 k x0 x1 x2 bt805.1 bt805.2.1 true))) else (swashplatelaw01_SpansCovered.j2 k x0 x1 x2 bt805.1 bt805.2.1 true))) else (swashplatelaw01_SpansCovered.j2 k x0 x1 x2 bt805.1 bt805.2.1 true)))))
def swashplatelaw01_SpansCovered.j2 : Nat → List (S27) → List (List (S27)) → List Int → List Int → Bool → Bool → Option (Bool)
 | 0, _, _, _, _, _, _ => none
 | k + 1, x0, x1, x2, x8, x9, x90 => if x90 = true then (some false) else ((swashplateref01_In.f k x2 x0).bind fun t812 => (if t812 = true then ((swashplatelaw01_inOne.f k x2 x1).bind fun t813 => (if t813 = true then (swashplatelaw01_SpansCovered.j3 k x0 x1 x9 false) else (if x9 = true then (swashplatelaw01_SpansCovered.j3 k x0 x1 x9 true) else ((swashplatelaw01_before.f k x2 x8).bind fun t814 => (swashplatelaw01_SpansCovered.j3 k x0 x1 x9 t814))))) else (swashplatelaw01_SpansCovered.j3 k x0 x1 x9 false)))
def swashplatelaw01_SpansCovered.j3 : Nat → List (S27) → List (List (S27)) → Bool → Bool → Option (Bool)
 | 0, _, _, _, _ => none
 | k + 1, x0, x1, x9, x107 => if x107 = true then (some false) else ((swashplateref01_CopyBoxes.f k x1).bind fun t815 => ((swashplatelaw01_box.f x0).bind fun t818 => (if t815.length < 5864062014805 then ((some (t815 ++ [t818] : List (List (S27)))).bind fun y821 => ((swashplatelaw01_box.f x0).bind fun t824 => ((spans_CoversP.f t824 y821).bind fun bt827 => ((swashplateref01_CopyBoxes.f k x1).bind fun t832 => ((spans_CountP.f t832).bind fun bt835 => ((spans_CountP.f y821).bind fun bt837 => (if bt827.2.2 = 0 then (if bt827.2.1 = true then (if bt835.2 = 0 then (if bt837.2 = 0 then (if bt835.1 ≥ 1000000000000000000 then (if bt837.1 ≥ bt835.1 then ((swashplatelaw01_works.f k).bind fun t839 => (some t839)) else (some false)) else (if ((bt837.1 == bt835.1) == x9) = true then (if bt837.1 ≥ bt835.1 then ((swashplatelaw01_works.f k).bind fun t840 => (some t840)) else (some false)) else (some false))) else (some false)) else (some false)) else (some false)) else (some false)))))))) else (none))))
end
def swashplatelaw01_SpansCovered.f (k : Nat) (l0 : List (S27)) (l1 : List (List (S27))) (l2 : List Int) : Option (Bool) := (swashplateref01_Check.f k l0).bind fun t792 => (if t792 = 0 then (if (l1.length : Int) > 6 then (swashplatelaw01_SpansCovered.j0 k l0 l1 l2 true) else (swashplatelaw01_SpansCovered.j0 k l0 l1 l2 ((l2.length : Int) != (l0.length : Int)))) else (swashplatelaw01_SpansCovered.j0 k l0 l1 l2 true))
set_option maxHeartbeats 8000000 in
set_option maxRecDepth 100000 in
theorem swashplatelaw01_SpansCovered.calls (k : Nat) (A0 : Option Addr) (c0 : Nat) (l0 : List (S27)) (A1 : Option Addr) (c1 : Nat) (l1 : List (List (S27))) (A2 : Option Addr) (c2 : Nat) (l2 : List Int) (r : Bool) (w : World) (hr0 : Kd.C k27 w A0 l0.length l0) (hc0 : l0.length ≤ c0) (hr1 : Kd.C (Kd.slice 27 k27) w A1 l1.length l1) (hc1 : l1.length ≤ c1) (hr2 : Kd.C (Kd.int .i64) w A2 l2.length l2) (hc2 : l2.length ≤ c2) (h : swashplatelaw01_SpansCovered.f k l0 l1 l2 = some r) (hrT : Aside0 (r = true)) :
  Calls Try.prog 18 #[.slice A0 l0.length c0, .slice A1 l1.length c1, .slice A2 l2.length c2] w fun e w' => e = .returned (.bool r) ∧ Below w.heap.size w w' := by
 have HR0 := Aside0.mk hr0
 have HC0 := Aside0.mk hc0
 clear hr0 hc0
 have HR1 := Aside0.mk hr1
 have HC1 := Aside0.mk hc1
 clear hr1 hc1
 have HR2 := Aside0.mk hr2
 have HC2 := Aside0.mk hc2
 clear hr2 hc2
 have HB := Aside0.mk (Below.refl w.heap.size w)
 have H : ((swashplateref01_Check.f k l0).bind fun t792 => (if t792 = 0 then (if (l1.length : Int) > 6 then (swashplatelaw01_SpansCovered.j0 k l0 l1 l2 true) else (swashplatelaw01_SpansCovered.j0 k l0 l1 l2 ((l2.length : Int) != (l0.length : Int)))) else (swashplatelaw01_SpansCovered.j0 k l0 l1 l2 true))) = some r := h
 clear h
 have HC4 := Aside0.mk H
 clear H
 go_enter Try.func18, Try.ntmps18
 go_upto_region 1 with (fail)
 go_cut [33] (fun v33 wc => ∃ (kq : Nat) (x33_3 : Bool), v33 = .bool x33_3 ∧ Aside0 (swashplatelaw01_SpansCovered.j0 kq l0 l1 l2 x33_3 = some r) ∧ Aside0 (kq ≤ k) ∧ Aside0 (Below w.heap.size w wc))
 case first =>
  have H := HC4.out
  clear HC4
  replace H := Option.bind_eq_some_iff.mp H
  obtain ⟨t792, A50, H⟩ := H
  replace H : (if t792 = 0 then (if (l1.length : Int) > 6 then (swashplatelaw01_SpansCovered.j0 k l0 l1 l2 true) else (swashplatelaw01_SpansCovered.j0 k l0 l1 l2 ((l2.length : Int) != (l0.length : Int)))) else (swashplatelaw01_SpansCovered.j0 k l0 l1 l2 true)) = some r := H
  have A5 := Aside0.mk A50
  clear A50
  by_cases c6 : t792 = 0
  ·
   rw [if_pos c6] at H
   have c6b0 : (t792 == 0) = true := beq_iff_eq.mpr c6
   have c6b1 : (t792 != 0) = false := bne_eq_false_iff_eq.mpr c6
   clear c6
   (first | rw [c6b0] | (simp only [i64_w, i32_w]; rw [c6b0]) | skip)
   by_cases c7 : (l1.length : Int) > 6
   ·
    rw [if_pos c7] at H
    have c7b0 : decide (6 < (l1.length : Int)) = true := decide_eq_true c7
    have c7b1 : decide (6 < l1.length) = true := decide_eq_true (by omega)
    clear c7
    have H' := Aside0.mk H
    clear H
    go_wp2_with (first | ((with_reducible refine gate_callee (f := 28) rfl ?_); refine goesL_ (some 20) rfl rfl Try.func28 (by kernel_rfl) rfl #[.slice A0 l0.length c0] rfl (by (try simp only [List.map_toArray, List.map_cons, List.map_nil]); first | done | rfl | (simp only [List.length_drop, List.length_take]; rfl)) ?_; (with_reducible refine (swashplateref01_Check.calls k _ _ l0 t792 _ ?side1 ?side2 A5.out).mono ?_); (case side1 => exact cr_ (Kd.C_below HR0.out HB.out)); (case side2 => exact HC0.out); rintro e w8 ⟨rfl, hb⟩; refine ⟨_, rfl, ?_⟩; have n0_ := Aside0.mk (below_step (bl_ HB.out) hb); clear HB; have HB := n0_; clear n0_; (try clear hb); (try clear hb2); (try clear hk); (try clear hi)))
    go_meet
    case rel => exact ⟨_, (true), (by first | rfl | (simp; done) | (simp [*]; done)), H', ⟨by first | omega | exact Nat.le_refl _⟩, ⟨bl_ HB.out⟩⟩
   ·
    rw [if_neg c7] at H
    have c7b0 : decide (6 < (l1.length : Int)) = false := decide_eq_false c7
    have c7b1 : decide (6 < l1.length) = false := decide_eq_false (by omega)
    clear c7
    have H' := Aside0.mk H
    clear H
    go_wp2_with (first | ((with_reducible refine gate_callee (f := 28) rfl ?_); refine goesL_ (some 20) rfl rfl Try.func28 (by kernel_rfl) rfl #[.slice A0 l0.length c0] rfl (by (try simp only [List.map_toArray, List.map_cons, List.map_nil]); first | done | rfl | (simp only [List.length_drop, List.length_take]; rfl)) ?_; (with_reducible refine (swashplateref01_Check.calls k _ _ l0 t792 _ ?side1 ?side2 A5.out).mono ?_); (case side1 => exact cr_ (Kd.C_below HR0.out HB.out)); (case side2 => exact HC0.out); rintro e w9 ⟨rfl, hb⟩; refine ⟨_, rfl, ?_⟩; have n0_ := Aside0.mk (below_step (bl_ HB.out) hb); clear HB; have HB := n0_; clear n0_; (try clear hb); (try clear hb2); (try clear hk); (try clear hi)))
    go_meet
    case rel => exact ⟨_, (((l2.length : Int) != (l0.length : Int))), (by first | rfl | (simp; done) | (simp [*]; done)), H', ⟨by first | omega | exact Nat.le_refl _⟩, ⟨bl_ HB.out⟩⟩
  ·
   rw [if_neg c6] at H
   have c6b0 : (t792 == 0) = false := beq_eq_false_iff_ne.mpr c6
   have c6b1 : (t792 != 0) = true := bne_iff_ne.mpr c6
   (first | rw [c6b0] | (simp only [i64_w, i32_w]; rw [c6b0]) | skip)
   have H' := Aside0.mk H
   clear H
   go_wp2_with (first | ((with_reducible refine gate_callee (f := 28) rfl ?_); refine goesL_ (some 20) rfl rfl Try.func28 (by kernel_rfl) rfl #[.slice A0 l0.length c0] rfl (by (try simp only [List.map_toArray, List.map_cons, List.map_nil]); first | done | rfl | (simp only [List.length_drop, List.length_take]; rfl)) ?_; (with_reducible refine (swashplateref01_Check.calls k _ _ l0 t792 _ ?side1 ?side2 A5.out).mono ?_); (case side1 => exact cr_ (Kd.C_below HR0.out HB.out)); (case side2 => exact HC0.out); rintro e w10 ⟨rfl, hb⟩; refine ⟨_, rfl, ?_⟩; have n0_ := Aside0.mk (below_step (bl_ HB.out) hb); clear HB; have HB := n0_; clear n0_; (try clear hb); (try clear hb2); (try clear hk); (try clear hi)))
   go_meet
   case rel => exact ⟨_, (true), (by first | rfl | (simp; done) | (simp [*]; done)), H', ⟨by first | omega | exact Nat.le_refl _⟩, ⟨bl_ HB.out⟩⟩
 case rest =>
  clear HC4
  try clear c1
  try clear c2
  try clear p2
  try clear c6
  try clear c6b0
  try clear c6b1
  try clear c7
  try clear c7b0
  try clear c7b1
  obtain ⟨kq, x33_3, rfl, HA, HJ3, HB⟩ := hcut
  cases kq with
  | zero => exact absurd HA.out (by simp [swashplatelaw01_SpansCovered.j0])
  | succ kj3 =>
   have H := HA.out
   clear HA
   simp only [swashplatelaw01_SpansCovered.j0] at H
   by_cases c11 : x33_3 = true
   ·
    subst c11
    have H1 : ((swashplatelaw01_works.f kj3).bind fun t793 => (some t793)) = some r := by rw [if_pos rfl] at H; exact H
    clear H
    have H := H1
    clear H1
    replace H := Option.bind_eq_some_iff.mp H
    obtain ⟨t793, A120, H⟩ := H
    replace H : (some t793) = some r := H
    have A12 := Aside0.mk A120
    clear A120
    obtain rfl := Option.some.inj H
    go_wp2_with (first | ((with_reducible refine gate_callee (f := 22) rfl ?_); refine goesL_ (some 34) rfl rfl Try.func22 (by kernel_rfl) rfl #[] rfl (by (try simp only [List.map_toArray, List.map_cons, List.map_nil]); first | done | rfl | (simp only [List.length_drop, List.length_take]; rfl)) ?_; (with_reducible refine (swashplatelaw01_works.calls kj3  t793 _ A12.out).mono ?_); rintro e w13 ⟨rfl, hb⟩; refine ⟨_, rfl, ?_⟩; have n0_ := Aside0.mk (below_step (bl_ HB.out) hb); clear HB; have HB := n0_; clear n0_; (try clear hb); (try clear hb2); (try clear hk); (try clear hi)))
    go_ret
    exact ⟨by first | rfl | (simp [errW_none, errW_some] <;> rfl) | (simp [*, errW_none, errW_some] <;> rfl), bl_ HB.out⟩
   ·
    replace c11 := Bool.eq_false_iff.mpr c11
    subst c11
    have H1 : (swashplatelaw01_SpansCovered.l0 kj3 l0 l1 l2 0) = some r := by rw [if_neg (show ¬ (false = true) by decide)] at H; exact H
    clear H
    have H := H1
    clear H1
    have H' := Aside0.mk H
    clear H
    go_wp2
    go_loopg [7] kj3 (fun kq v7 w' => ∃ (x7_2 : Int), v7 = .int .i64 x7_2 ∧ Aside0 (swashplatelaw01_SpansCovered.l0 kq l0 l1 l2 x7_2 = some r) ∧ Aside0 (kq ≤ kj3) ∧ Aside0 (Below w.heap.size w w'))
    case atStart => exact ⟨(0), (by first | rfl | (simp; done) | (simp [*]; done)), H', ⟨Nat.le_refl _⟩, ⟨bl_ HB.out⟩⟩
    case round =>
     clear H'
     try clear c1
     try clear c2
     try clear p2
     try clear c6
     try clear c6b0
     try clear c6b1
     try clear c7
     try clear c7b0
     try clear c7b1
     try clear c11
     try clear p2
     obtain ⟨x7_2, rfl, HA, HK2, HB⟩ := hrel
     cases gk with
     | zero => exact absurd HA.out (by simp [swashplatelaw01_SpansCovered.l0])
     | succ k2 =>
      have H := HA.out
      clear HA
      simp only [swashplatelaw01_SpansCovered.l0] at H
      by_cases c14 : x7_2 < (l1.length : Int)
      ·
       rw [if_pos c14] at H
       have c14b0 : decide (x7_2 < (l1.length : Int)) = true := decide_eq_true c14
       clear c14
       by_cases c15 : 0 ≤ x7_2
       ·
        rw [if_pos c15] at H
        have c15b0 : decide (0 ≤ x7_2) = true := decide_eq_true c15
        clear c15
        replace H := Option.bind_eq_some_iff.mp H
        obtain ⟨t795, A160, H⟩ := H
        replace H : (if t795 = 0 then (if ((rd_L2 l1 x7_2).length : Int) = (l0.length : Int) then (swashplatelaw01_SpansCovered.l0 k2 l0 l1 l2 (wrap64 (x7_2 + 1))) else ((swashplatelaw01_works.f k2).bind fun t797 => (some t797))) else ((swashplatelaw01_works.f k2).bind fun t798 => (some t798))) = some r := H
        have A16 := Aside0.mk A160
        clear A160
        by_cases c17 : t795 = 0
        ·
         rw [if_pos c17] at H
         have c17b0 : (t795 == 0) = true := beq_iff_eq.mpr c17
         have c17b1 : (t795 != 0) = false := bne_eq_false_iff_eq.mpr c17
         clear c17
         by_cases c18 : ((rd_L2 l1 x7_2).length : Int) = (l0.length : Int)
         ·
          rw [if_pos c18] at H
          have c18b0 : (((rd_L2 l1 x7_2).length : Int) == (l0.length : Int)) = true := beq_iff_eq.mpr c18
          have c18b1 : (((rd_L2 l1 x7_2).length : Int) != (l0.length : Int)) = false := bne_eq_false_iff_eq.mpr c18
          have c18b2 : ((rd_L2 l1 x7_2).length == l0.length) = true := by first | simpa using c18 | (simp at c18 ⊢; omega)
          clear c18
          have H' := Aside0.mk H
          clear H
          have p794 : 0 ≤ (x7_2 : Int) := of_decide_eq_true (by first | (with_reducible assumption) | assumption)
          have q794 : x7_2 < (l1.length : Int) := of_decide_eq_true (by first | (with_reducible assumption) | assumption)
          obtain ⟨ad794, A794_0, c794_0, e794, hx794_0, hl794_0, hi794_0⟩ := at_L2 HR1.out x7_2 p794 q794
          cases e794
          replace hx794_0 := (HB.out.cell (World.block_lt_of_cell? w _ hx794_0)).trans hx794_0
          have HR794_0 := Aside0.mk hi794_0
          have HC794_0 := Aside0.mk hl794_0
          clear hi794_0 hl794_0
          replace p794 := eq_true p794
          replace q794 := eq_true q794
          go_wp2_with (first | ((with_reducible refine gate_callee (f := 28) rfl ?_); refine goesL_ (some 45) rfl rfl Try.func28 (by kernel_rfl) rfl #[.slice A794_0 (rd_L2 l1 x7_2).length c794_0] rfl (by (try simp only [List.map_toArray, List.map_cons, List.map_nil]); first | done | rfl | (simp only [List.length_drop, List.length_take]; rfl)) ?_; (with_reducible refine (swashplateref01_Check.calls k2 _ _ (rd_L2 l1 x7_2) t795 _ ?side1 ?side2 A16.out).mono ?_); (case side1 => exact cr_ (Kd.C_below HR794_0.out HB.out)); (case side2 => exact HC794_0.out); rintro e w19 ⟨rfl, hb⟩; refine ⟨_, rfl, ?_⟩; have n0_ := Aside0.mk (below_step (bl_ HB.out) hb); clear HB; have HB := n0_; clear n0_; (try clear hb); (try clear hb2); (try clear hk); (try clear hi); have p796 : 0 ≤ (x7_2 : Int) := of_decide_eq_true (by first | (with_reducible assumption) | assumption); have q796 : x7_2 < (l1.length : Int) := of_decide_eq_true (by first | (with_reducible assumption) | assumption); obtain ⟨ad796, A796_0, c796_0, e796, hx796_0, hl796_0, hi796_0⟩ := at_L2 HR1.out x7_2 p796 q796; obtain rfl : ad794 = ad796 := (by injection e796); replace hx796_0 := (HB.out.cell (World.block_lt_of_cell? w _ hx796_0)).trans hx796_0; have HR796_0 := Aside0.mk hi796_0; have HC796_0 := Aside0.mk hl796_0; clear hi796_0 hl796_0; replace p796 := eq_true p796; replace q796 := eq_true q796))
          go_roundg k2
          case measure => have := HJ3.out; have := HK2.out; omega
          case rel => exact ⟨(wrap64 (x7_2 + 1)), (by first | rfl | (simp; done) | (simp [*]; done)), H', ⟨by have := HJ3.out; have := HK2.out; omega⟩, ⟨bl_ HB.out⟩⟩
         ·
          rw [if_neg c18] at H
          have c18b0 : (((rd_L2 l1 x7_2).length : Int) == (l0.length : Int)) = false := beq_eq_false_iff_ne.mpr c18
          have c18b1 : (((rd_L2 l1 x7_2).length : Int) != (l0.length : Int)) = true := bne_iff_ne.mpr c18
          have c18b2 : ((rd_L2 l1 x7_2).length == l0.length) = false := by first | simpa using c18 | (simp at c18 ⊢; omega)
          replace H := Option.bind_eq_some_iff.mp H
          obtain ⟨t797, A200, H⟩ := H
          replace H : (some t797) = some r := H
          have A20 := Aside0.mk A200
          clear A200
          obtain rfl := Option.some.inj H
          have p794 : 0 ≤ (x7_2 : Int) := of_decide_eq_true (by first | (with_reducible assumption) | assumption)
          have q794 : x7_2 < (l1.length : Int) := of_decide_eq_true (by first | (with_reducible assumption) | assumption)
          obtain ⟨ad794, A794_0, c794_0, e794, hx794_0, hl794_0, hi794_0⟩ := at_L2 HR1.out x7_2 p794 q794
          cases e794
          replace hx794_0 := (HB.out.cell (World.block_lt_of_cell? w _ hx794_0)).trans hx794_0
          have HR794_0 := Aside0.mk hi794_0
          have HC794_0 := Aside0.mk hl794_0
          clear hi794_0 hl794_0
          replace p794 := eq_true p794
          replace q794 := eq_true q794
          go_wp2_with (first | ((with_reducible refine gate_callee (f := 28) rfl ?_); refine goesL_ (some 45) rfl rfl Try.func28 (by kernel_rfl) rfl #[.slice A794_0 (rd_L2 l1 x7_2).length c794_0] rfl (by (try simp only [List.map_toArray, List.map_cons, List.map_nil]); first | done | rfl | (simp only [List.length_drop, List.length_take]; rfl)) ?_; (with_reducible refine (swashplateref01_Check.calls k2 _ _ (rd_L2 l1 x7_2) t795 _ ?side1 ?side2 A16.out).mono ?_); (case side1 => exact cr_ (Kd.C_below HR794_0.out HB.out)); (case side2 => exact HC794_0.out); rintro e w21 ⟨rfl, hb⟩; refine ⟨_, rfl, ?_⟩; have n0_ := Aside0.mk (below_step (bl_ HB.out) hb); clear HB; have HB := n0_; clear n0_; (try clear hb); (try clear hb2); (try clear hk); (try clear hi); have p796 : 0 ≤ (x7_2 : Int) := of_decide_eq_true (by first | (with_reducible assumption) | assumption); have q796 : x7_2 < (l1.length : Int) := of_decide_eq_true (by first | (with_reducible assumption) | assumption); obtain ⟨ad796, A796_0, c796_0, e796, hx796_0, hl796_0, hi796_0⟩ := at_L2 HR1.out x7_2 p796 q796; obtain rfl : ad794 = ad796 := (by injection e796); replace hx796_0 := (HB.out.cell (World.block_lt_of_cell? w _ hx796_0)).trans hx796_0; have HR796_0 := Aside0.mk hi796_0; have HC796_0 := Aside0.mk hl796_0; clear hi796_0 hl796_0; replace p796 := eq_true p796; replace q796 := eq_true q796) | ((with_reducible refine gate_callee (f := 22) rfl ?_); refine goesL_ (some 57) rfl rfl Try.func22 (by kernel_rfl) rfl #[] rfl (by (try simp only [List.map_toArray, List.map_cons, List.map_nil]); first | done | rfl | (simp only [List.length_drop, List.length_take]; rfl)) ?_; (with_reducible refine (swashplatelaw01_works.calls k2  t797 _ A20.out).mono ?_); rintro e w22 ⟨rfl, hb⟩; refine ⟨_, rfl, ?_⟩; have n0_ := Aside0.mk (below_step (bl_ HB.out) hb); clear HB; have HB := n0_; clear n0_; (try clear hb); (try clear hb2); (try clear hk); (try clear hi)))
          go_ret
          exact ⟨by first | rfl | (simp [errW_none, errW_some] <;> rfl) | (simp [*, errW_none, errW_some] <;> rfl), bl_ HB.out⟩
        ·
         rw [if_neg c17] at H
         have c17b0 : (t795 == 0) = false := beq_eq_false_iff_ne.mpr c17
         have c17b1 : (t795 != 0) = true := bne_iff_ne.mpr c17
         replace H := Option.bind_eq_some_iff.mp H
         obtain ⟨t798, A230, H⟩ := H
         replace H : (some t798) = some r := H
         have A23 := Aside0.mk A230
         clear A230
         obtain rfl := Option.some.inj H
         have p794 : 0 ≤ (x7_2 : Int) := of_decide_eq_true (by first | (with_reducible assumption) | assumption)
         have q794 : x7_2 < (l1.length : Int) := of_decide_eq_true (by first | (with_reducible assumption) | assumption)
         obtain ⟨ad794, A794_0, c794_0, e794, hx794_0, hl794_0, hi794_0⟩ := at_L2 HR1.out x7_2 p794 q794
         cases e794
         replace hx794_0 := (HB.out.cell (World.block_lt_of_cell? w _ hx794_0)).trans hx794_0
         have HR794_0 := Aside0.mk hi794_0
         have HC794_0 := Aside0.mk hl794_0
         clear hi794_0 hl794_0
         replace p794 := eq_true p794
         replace q794 := eq_true q794
         go_wp2_with (first | ((with_reducible refine gate_callee (f := 28) rfl ?_); refine goesL_ (some 45) rfl rfl Try.func28 (by kernel_rfl) rfl #[.slice A794_0 (rd_L2 l1 x7_2).length c794_0] rfl (by (try simp only [List.map_toArray, List.map_cons, List.map_nil]); first | done | rfl | (simp only [List.length_drop, List.length_take]; rfl)) ?_; (with_reducible refine (swashplateref01_Check.calls k2 _ _ (rd_L2 l1 x7_2) t795 _ ?side1 ?side2 A16.out).mono ?_); (case side1 => exact cr_ (Kd.C_below HR794_0.out HB.out)); (case side2 => exact HC794_0.out); rintro e w24 ⟨rfl, hb⟩; refine ⟨_, rfl, ?_⟩; have n0_ := Aside0.mk (below_step (bl_ HB.out) hb); clear HB; have HB := n0_; clear n0_; (try clear hb); (try clear hb2); (try clear hk); (try clear hi)) | ((with_reducible refine gate_callee (f := 22) rfl ?_); refine goesL_ (some 57) rfl rfl Try.func22 (by kernel_rfl) rfl #[] rfl (by (try simp only [List.map_toArray, List.map_cons, List.map_nil]); first | done | rfl | (simp only [List.length_drop, List.length_take]; rfl)) ?_; (with_reducible refine (swashplatelaw01_works.calls k2  t798 _ A23.out).mono ?_); rintro e w25 ⟨rfl, hb⟩; refine ⟨_, rfl, ?_⟩; have n0_ := Aside0.mk (below_step (bl_ HB.out) hb); clear HB; have HB := n0_; clear n0_; (try clear hb); (try clear hb2); (try clear hk); (try clear hi)))
         go_ret
         exact ⟨by first | rfl | (simp [errW_none, errW_some] <;> rfl) | (simp [*, errW_none, errW_some] <;> rfl), bl_ HB.out⟩
       ·
        rw [if_neg c15] at H
        exact absurd H (by simp)
      ·
       rw [if_neg c14] at H
       have c14b0 : decide (x7_2 < (l1.length : Int)) = false := decide_eq_false c14
       clear c14
       replace H := Option.bind_eq_some_iff.mp H
       obtain ⟨t799, A260, H⟩ := H
       replace H : ((swashplateref01_CopyBoxes.f k2 l1).bind fun t802 => ((spans_CoversP.f t799 t802).bind fun bt805 => (if bt805.2.2 = 0 then (if bt805.2.1 = true then (swashplatelaw01_SpansCovered.j2 k2 l0 l1 l2 bt805.1 bt805.2.1 false) else (if (bt805.1.length : Int) = (l0.length : Int) then ((swashplateref01_In.f k2 bt805.1 l0).bind fun t810 => (if t810 = true then ((swashplatelaw01_inOne.f k2 bt805.1 l1).bind fun t811 => (swashplatelaw01_SpansCovered.j2 k2 l0 l1 l2 bt805.1 bt805.2.1 t811)) else (swashplatelaw01_SpansCovered.j2 k2 l0 l1 l2 bt805.1 bt805.2.1 true))) else (swashplatelaw01_SpansCovered.j2 k2 l0 l1 l2 bt805.1 bt805.2.1 true))) else (swashplatelaw01_SpansCovered.j2 k2 l0 l1 l2 bt805.1 bt805.2.1 true)))) = some r := H
       have A26 := Aside0.mk A260
       clear A260
       replace H := Option.bind_eq_some_iff.mp H
       obtain ⟨t802, A270, H⟩ := H
       replace H : ((spans_CoversP.f t799 t802).bind fun bt805 => (if bt805.2.2 = 0 then (if bt805.2.1 = true then (swashplatelaw01_SpansCovered.j2 k2 l0 l1 l2 bt805.1 bt805.2.1 false) else (if (bt805.1.length : Int) = (l0.length : Int) then ((swashplateref01_In.f k2 bt805.1 l0).bind fun t810 => (if t810 = true then ((swashplatelaw01_inOne.f k2 bt805.1 l1).bind fun t811 => (swashplatelaw01_SpansCovered.j2 k2 l0 l1 l2 bt805.1 bt805.2.1 t811)) else (swashplatelaw01_SpansCovered.j2 k2 l0 l1 l2 bt805.1 bt805.2.1 true))) else (swashplatelaw01_SpansCovered.j2 k2 l0 l1 l2 bt805.1 bt805.2.1 true))) else (swashplatelaw01_SpansCovered.j2 k2 l0 l1 l2 bt805.1 bt805.2.1 true))) = some r := H
       have A27 := Aside0.mk A270
       clear A270
       replace H := Option.bind_eq_some_iff.mp H
       obtain ⟨⟨t805, t806, t807⟩, A280, H⟩ := H
       replace H : (if t807 = 0 then (if t806 = true then (swashplatelaw01_SpansCovered.j2 k2 l0 l1 l2 t805 t806 false) else (if (t805.length : Int) = (l0.length : Int) then ((swashplateref01_In.f k2 t805 l0).bind fun t810 => (if t810 = true then ((swashplatelaw01_inOne.f k2 t805 l1).bind fun t811 => (swashplatelaw01_SpansCovered.j2 k2 l0 l1 l2 t805 t806 t811)) else (swashplatelaw01_SpansCovered.j2 k2 l0 l1 l2 t805 t806 true))) else (swashplatelaw01_SpansCovered.j2 k2 l0 l1 l2 t805 t806 true))) else (swashplatelaw01_SpansCovered.j2 k2 l0 l1 l2 t805 t806 true)) = some r := H
       have A28 := Aside0.mk A280
       clear A280
       have HC29 := Aside0.mk H
       clear H
       go_upto_region 9 with (first | ((with_reducible refine gate_callee (f := 27) rfl ?_); refine goesL_ (some 60) rfl rfl Try.func27 (by kernel_rfl) rfl #[.slice A0 l0.length c0] rfl (by (try simp only [List.map_toArray, List.map_cons, List.map_nil]); first | done | rfl | (simp only [List.length_drop, List.length_take]; rfl)) ?_; (with_reducible refine (swashplatelaw01_box.calls _ _ l0 t799 _ ?side1 ?side2 A26.out).mono ?_); (case side1 => exact cr_ (Kd.C_below HR0.out HB.out)); (case side2 => exact HC0.out); rintro e w30 ⟨v800, rfl, ho0, hb⟩; refine ⟨_, rfl, ?_⟩; have n0_ := Aside0.mk (Kd.R_lower ho0 (below_size (bl_ HB.out))); have n1_ := Aside0.mk (below_step (bl_ HB.out) hb); clear HB; have HO801 := n0_; have HB := n1_; clear n0_ n1_; (try clear hb); (try clear hb2); (try clear hk); (try clear hi); (try clear ho0)) | ((with_reducible refine gate_callee (f := 66) rfl ?_); refine goesL_ (some 62) rfl rfl Try.func66 (by kernel_rfl) rfl #[.slice A1 l1.length c1] rfl (by (try simp only [List.map_toArray, List.map_cons, List.map_nil]); first | done | rfl | (simp only [List.length_drop, List.length_take]; rfl)) ?_; (with_reducible refine (swashplateref01_CopyBoxes.calls k2 _ _ l1 t802 _ ?side1 ?side2 A27.out).mono ?_); (case side1 => exact cr_ (Kd.C_below HR1.out HB.out)); (case side2 => exact HC1.out); rintro e w31 ⟨v803, rfl, ho0, hb⟩; refine ⟨_, rfl, ?_⟩; have n0_ := Aside0.mk (Kd.R_below (by (with_reducible repeat (first | apply Kd.R_alloc | apply Kd.R_drewN | apply Kd.R_drew)); exact HO801.out) hb); have n1_ := Aside0.mk (Kd.S_lower (Kd.S_new' ho0 (Kd.R_lt (by (with_reducible repeat (first | apply Kd.R_alloc | apply Kd.R_drewN | apply Kd.R_drew)); exact HO801.out))) (below_size (bl_ HB.out))); have n2_ := Aside0.mk (below_step (bl_ HB.out) hb); clear HO801 HB; have HO801 := n0_; have HO804 := n1_; have HB := n2_; clear n0_ n1_ n2_; (try clear hb); (try clear hb2); (try clear hk); (try clear hi); (try clear ho0); obtain ⟨Ao32, co32, eo32⟩ := Kd.R_slice HO801.out; subst eo32; obtain ⟨Ao33, co33, eo33⟩ := Kd.S_slice HO804.out; subst eo33) | ((with_reducible refine gate_callee (f := 76) rfl ?_); refine goesL_ (some 63) rfl rfl Try.func76 (by kernel_rfl) rfl #[.slice Ao32 t799.length co32, .slice Ao33 t802.length co33] rfl (by (try simp only [List.map_toArray, List.map_cons, List.map_nil]); first | done | rfl | (simp only [List.length_drop, List.length_take]; rfl)) ?_; (with_reducible refine (spans_CoversP.calls _ _ t799 _ _ t802 t805 t806 t807 _ ?side1 ?side2 ?side3 ?side4 A28.out).mono ?_); (case side1 => exact cr_ (Kd.R_reads' HO801.out).2.2); (case side2 => exact (Kd.R_reads' HO801.out).2.1); (case side3 => exact cr_ (Kd.S_reads' HO804.out).2.2); (case side4 => exact (Kd.S_reads' HO804.out).2.1); rintro e w34 ⟨v808, rfl, ho0, hb⟩; refine ⟨_, rfl, ?_⟩; have n0_ := Aside0.mk (Kd.R_below (by (with_reducible repeat (first | apply Kd.R_alloc | apply Kd.R_drewN | apply Kd.R_drew)); exact HO801.out) hb); have n1_ := Aside0.mk (Kd.S_below (by (with_reducible repeat (first | apply Kd.S_alloc | apply Kd.S_drewN | apply Kd.S_drew)); exact HO804.out) hb); have n2_ := Aside0.mk (Kd.R_lower ho0 (below_size (bl_ HB.out))); have n3_ := Aside0.mk (below_step (bl_ HB.out) hb); clear HO801 HO804 HB; have HO801 := n0_; have HO804 := n1_; have HO809 := n2_; have HB := n3_; clear n0_ n1_ n2_ n3_; (try clear hb); (try clear hb2); (try clear hk); (try clear hi); (try clear ho0)))
       (try simp only [Act.put, List.setIfInBounds_toArray, List.set_cons_zero, List.set_cons_succ])
       go_cut [90] (fun v90 wc => ∃ (kq : Nat) (x90_28 : Bool), v90 = .bool x90_28 ∧ Aside0 (swashplatelaw01_SpansCovered.j2 kq l0 l1 l2 t805 t806 x90_28 = some r) ∧ Aside0 (kq ≤ k2) ∧ Aside0 (Kd.R (Kd.int .i64) 3 wc w.heap.size (fun _ => True) v808 t805) ∧ Aside0 (Below w.heap.size w wc))
       case first =>
        have H := HC29.out
        clear HC29
        by_cases c35 : t807 = 0
        ·
         rw [if_pos c35] at H
         have c35b0 : (t807 == 0) = true := beq_iff_eq.mpr c35
         have c35b1 : (t807 != 0) = false := bne_eq_false_iff_eq.mpr c35
         clear c35
         (first | rw [c35b0] | (simp only [i64_w, i32_w]; rw [c35b0]) | skip)
         by_cases c36 : t806 = true
         ·
          subst c36
          have H1 : (swashplatelaw01_SpansCovered.j2 k2 l0 l1 l2 t805 true false) = some r := by rw [if_pos rfl] at H; exact H
          clear H
          have H := H1
          clear H1
          have H' := Aside0.mk H
          clear H
          go_wp2
          go_meet
          case rel => exact ⟨_, (false), (by first | rfl | (simp; done) | (simp [*]; done)), H', ⟨by have := HJ3.out; have := HK2.out; first | omega | exact Nat.le_refl _⟩, ⟨by (with_reducible repeat (first | apply Kd.R_alloc | apply Kd.R_drewN | apply Kd.R_drew)); exact HO809.out⟩, ⟨bl_ HB.out⟩⟩
         ·
          replace c36 := Bool.eq_false_iff.mpr c36
          subst c36
          have H1 : (if (t805.length : Int) = (l0.length : Int) then ((swashplateref01_In.f k2 t805 l0).bind fun t810 => (if t810 = true then ((swashplatelaw01_inOne.f k2 t805 l1).bind fun t811 => (swashplatelaw01_SpansCovered.j2 k2 l0 l1 l2 t805 false t811)) else (swashplatelaw01_SpansCovered.j2 k2 l0 l1 l2 t805 false true))) else (swashplatelaw01_SpansCovered.j2 k2 l0 l1 l2 t805 false true)) = some r := by rw [if_neg (show ¬ (false = true) by decide)] at H; exact H
          clear H
          have H := H1
          clear H1
          by_cases c37 : (t805.length : Int) = (l0.length : Int)
          ·
           rw [if_pos c37] at H
           have c37b0 : ((t805.length : Int) == (l0.length : Int)) = true := beq_iff_eq.mpr c37
           have c37b1 : ((t805.length : Int) != (l0.length : Int)) = false := bne_eq_false_iff_eq.mpr c37
           have c37b2 : (t805.length == l0.length) = true := by first | simpa using c37 | (simp at c37 ⊢; omega)
           clear c37
           replace H := Option.bind_eq_some_iff.mp H
           obtain ⟨t810, A380, H⟩ := H
           replace H : (if t810 = true then ((swashplatelaw01_inOne.f k2 t805 l1).bind fun t811 => (swashplatelaw01_SpansCovered.j2 k2 l0 l1 l2 t805 false t811)) else (swashplatelaw01_SpansCovered.j2 k2 l0 l1 l2 t805 false true)) = some r := H
           have A38 := Aside0.mk A380
           clear A380
           by_cases c39 : t810 = true
           ·
            subst c39
            have H1 : ((swashplatelaw01_inOne.f k2 t805 l1).bind fun t811 => (swashplatelaw01_SpansCovered.j2 k2 l0 l1 l2 t805 false t811)) = some r := by rw [if_pos rfl] at H; exact H
            clear H
            have H := H1
            clear H1
            replace H := Option.bind_eq_some_iff.mp H
            obtain ⟨t811, A400, H⟩ := H
            replace H : (swashplatelaw01_SpansCovered.j2 k2 l0 l1 l2 t805 false t811) = some r := H
            have A40 := Aside0.mk A400
            clear A400
            have H' := Aside0.mk H
            clear H
            obtain ⟨Ao41, co41, eo41⟩ := Kd.R_slice HO809.out
            subst eo41
            go_wp2_with (first | (go_at_call 63; (with_reducible refine (swashplateref01_In.calls k2 _ _ t805 _ _ l0 true _ ?side1 ?side2 ?side3 ?side4 A38.out).mono ?_); (case side1 => exact cr_ (Kd.R_reads' HO809.out).2.2); (case side2 => exact (Kd.R_reads' HO809.out).2.1); (case side3 => exact cr_ (Kd.C_below HR0.out HB.out)); (case side4 => exact HC0.out); rintro e w' ⟨rfl, ⟨nd, rfl⟩⟩) | (go_at_call 79; (with_reducible refine (swashplatelaw01_inOne.calls k2 _ _ t805 _ _ l1 t811 _ ?side1 ?side2 ?side3 ?side4 A40.out).mono ?_); (case side1 => exact cr_ (Kd.R_reads' HO809.out).2.2); (case side2 => exact (Kd.R_reads' HO809.out).2.1); (case side3 => exact cr_ (Kd.C_below HR1.out (bl_ HB.out))); (case side4 => exact HC1.out); rintro e w' ⟨rfl, ⟨nd, rfl⟩⟩))
            go_meet
            case rel => exact ⟨_, (t811), (by first | rfl | (simp; done) | (simp [*]; done)), H', ⟨by have := HJ3.out; have := HK2.out; first | omega | exact Nat.le_refl _⟩, ⟨by (with_reducible repeat (first | apply Kd.R_alloc | apply Kd.R_drewN | apply Kd.R_drew)); exact HO809.out⟩, ⟨bl_ HB.out⟩⟩
           ·
            replace c39 := Bool.eq_false_iff.mpr c39
            subst c39
            have H1 : (swashplatelaw01_SpansCovered.j2 k2 l0 l1 l2 t805 false true) = some r := by rw [if_neg (show ¬ (false = true) by decide)] at H; exact H
            clear H
            have H := H1
            clear H1
            have H' := Aside0.mk H
            clear H
            obtain ⟨Ao42, co42, eo42⟩ := Kd.R_slice HO809.out
            subst eo42
            go_wp2_with (first | (go_at_call 63; (with_reducible refine (swashplateref01_In.calls k2 _ _ t805 _ _ l0 false _ ?side1 ?side2 ?side3 ?side4 A38.out).mono ?_); (case side1 => exact cr_ (Kd.R_reads' HO809.out).2.2); (case side2 => exact (Kd.R_reads' HO809.out).2.1); (case side3 => exact cr_ (Kd.C_below HR0.out HB.out)); (case side4 => exact HC0.out); rintro e w' ⟨rfl, ⟨nd, rfl⟩⟩))
            go_meet
            case rel => exact ⟨_, (true), (by first | rfl | (simp; done) | (simp [*]; done)), H', ⟨by have := HJ3.out; have := HK2.out; first | omega | exact Nat.le_refl _⟩, ⟨by (with_reducible repeat (first | apply Kd.R_alloc | apply Kd.R_drewN | apply Kd.R_drew)); exact HO809.out⟩, ⟨bl_ HB.out⟩⟩
          ·
           rw [if_neg c37] at H
           have c37b0 : ((t805.length : Int) == (l0.length : Int)) = false := beq_eq_false_iff_ne.mpr c37
           have c37b1 : ((t805.length : Int) != (l0.length : Int)) = true := bne_iff_ne.mpr c37
           have c37b2 : (t805.length == l0.length) = false := by first | simpa using c37 | (simp at c37 ⊢; omega)
           have H' := Aside0.mk H
           clear H
           obtain ⟨Ao43, co43, eo43⟩ := Kd.R_slice HO809.out
           subst eo43
           go_wp2
           go_meet
           case rel => exact ⟨_, (true), (by first | rfl | (simp; done) | (simp [*]; done)), H', ⟨by have := HJ3.out; have := HK2.out; first | omega | exact Nat.le_refl _⟩, ⟨by (with_reducible repeat (first | apply Kd.R_alloc | apply Kd.R_drewN | apply Kd.R_drew)); exact HO809.out⟩, ⟨bl_ HB.out⟩⟩
        ·
         rw [if_neg c35] at H
         have c35b0 : (t807 == 0) = false := beq_eq_false_iff_ne.mpr c35
         have c35b1 : (t807 != 0) = true := bne_iff_ne.mpr c35
         (first | rw [c35b0] | (simp only [i64_w, i32_w]; rw [c35b0]) | skip)
         have H' := Aside0.mk H
         clear H
         go_wp2
         go_meet
         case rel => exact ⟨_, (true), (by first | rfl | (simp; done) | (simp [*]; done)), H', ⟨by have := HJ3.out; have := HK2.out; first | omega | exact Nat.le_refl _⟩, ⟨by (with_reducible repeat (first | apply Kd.R_alloc | apply Kd.R_drewN | apply Kd.R_drew)); exact HO809.out⟩, ⟨bl_ HB.out⟩⟩
       case rest =>
        clear HC29
        try clear c1
        try clear c2
        try clear p2
        try clear c3
        try clear c6
        try clear c6b0
        try clear c6b1
        try clear p6
        try clear c7
        try clear c7b0
        try clear c7b1
        try clear p7
        try clear q7
        try clear hx7
        try clear c11
        try clear c14
        try clear c14b0
        try clear c15
        try clear c15b0
        try clear c17
        try clear c17b0
        try clear c17b1
        try clear c18
        try clear c18b0
        try clear c18b1
        try clear c18b2
        try clear c22
        try clear c27
        try clear c28
        try clear c35
        try clear c35b0
        try clear c35b1
        try clear c36
        try clear c37
        try clear c37b0
        try clear c37b1
        try clear c37b2
        try clear c39
        try clear hx794_0
        try clear hx796_0
        try clear p2
        try clear p794
        try clear p796
        try clear q794
        try clear q796
        obtain ⟨kq, x90_28, rfl, HA, HJ28, HO_8, HB⟩ := hcut
        cases kq with
        | zero => exact absurd HA.out (by simp [swashplatelaw01_SpansCovered.j2])
        | succ kj28 =>
         have H := HA.out
         clear HA
         simp only [swashplatelaw01_SpansCovered.j2] at H
         by_cases c44 : x90_28 = true
         ·
          subst c44
          have H1 : (some false) = some r := by rw [if_pos rfl] at H; exact H
          clear H
          have H := H1
          clear H1
          exact absurd ((Option.some.inj H).trans hrT.out) (by decide)
         ·
          replace c44 := Bool.eq_false_iff.mpr c44
          subst c44
          have H1 : ((swashplateref01_In.f kj28 l2 l0).bind fun t812 => (if t812 = true then ((swashplatelaw01_inOne.f kj28 l2 l1).bind fun t813 => (if t813 = true then (swashplatelaw01_SpansCovered.j3 kj28 l0 l1 t806 false) else (if t806 = true then (swashplatelaw01_SpansCovered.j3 kj28 l0 l1 t806 true) else ((swashplatelaw01_before.f kj28 l2 t805).bind fun t814 => (swashplatelaw01_SpansCovered.j3 kj28 l0 l1 t806 t814))))) else (swashplatelaw01_SpansCovered.j3 kj28 l0 l1 t806 false))) = some r := by rw [if_neg (show ¬ (false = true) by decide)] at H; exact H
          clear H
          have H := H1
          clear H1
          have HC45 := Aside0.mk H
          clear H
          go_upto_region 11 with (fail)
          go_cut [107] (fun v107 wc => ∃ (kq : Nat) (x107_44 : Bool), v107 = .bool x107_44 ∧ Aside0 (swashplatelaw01_SpansCovered.j3 kq l0 l1 t806 x107_44 = some r) ∧ Aside0 (kq ≤ kj28) ∧ Aside0 (Below w.heap.size w wc))
          case first =>
           have H := HC45.out
           clear HC45
           replace H := Option.bind_eq_some_iff.mp H
           obtain ⟨t812, A460, H⟩ := H
           replace H : (if t812 = true then ((swashplatelaw01_inOne.f kj28 l2 l1).bind fun t813 => (if t813 = true then (swashplatelaw01_SpansCovered.j3 kj28 l0 l1 t806 false) else (if t806 = true then (swashplatelaw01_SpansCovered.j3 kj28 l0 l1 t806 true) else ((swashplatelaw01_before.f kj28 l2 t805).bind fun t814 => (swashplatelaw01_SpansCovered.j3 kj28 l0 l1 t806 t814))))) else (swashplatelaw01_SpansCovered.j3 kj28 l0 l1 t806 false)) = some r := H
           have A46 := Aside0.mk A460
           clear A460
           by_cases c47 : t812 = true
           ·
            subst c47
            have H1 : ((swashplatelaw01_inOne.f kj28 l2 l1).bind fun t813 => (if t813 = true then (swashplatelaw01_SpansCovered.j3 kj28 l0 l1 t806 false) else (if t806 = true then (swashplatelaw01_SpansCovered.j3 kj28 l0 l1 t806 true) else ((swashplatelaw01_before.f kj28 l2 t805).bind fun t814 => (swashplatelaw01_SpansCovered.j3 kj28 l0 l1 t806 t814))))) = some r := by rw [if_pos rfl] at H; exact H
            clear H
            have H := H1
            clear H1
            replace H := Option.bind_eq_some_iff.mp H
            obtain ⟨t813, A480, H⟩ := H
            replace H : (if t813 = true then (swashplatelaw01_SpansCovered.j3 kj28 l0 l1 t806 false) else (if t806 = true then (swashplatelaw01_SpansCovered.j3 kj28 l0 l1 t806 true) else ((swashplatelaw01_before.f kj28 l2 t805).bind fun t814 => (swashplatelaw01_SpansCovered.j3 kj28 l0 l1 t806 t814)))) = some r := H
            have A48 := Aside0.mk A480
            clear A480
            by_cases c49 : t813 = true
            ·
             subst c49
             have H1 : (swashplatelaw01_SpansCovered.j3 kj28 l0 l1 t806 false) = some r := by rw [if_pos rfl] at H; exact H
             clear H
             have H := H1
             clear H1
             have H' := Aside0.mk H
             clear H
             go_wp2_with (first | ((with_reducible refine gate_callee (f := 63) rfl ?_); refine goesL_ (some 93) rfl rfl Try.func63 (by kernel_rfl) rfl #[.slice A2 l2.length c2, .slice A0 l0.length c0] rfl (by (try simp only [List.map_toArray, List.map_cons, List.map_nil]); first | done | rfl | (simp only [List.length_drop, List.length_take]; rfl)) ?_; (with_reducible refine (swashplateref01_In.calls kj28 _ _ l2 _ _ l0 true _ ?side1 ?side2 ?side3 ?side4 A46.out).mono ?_); (case side1 => exact cr_ (Kd.C_below HR2.out HB.out)); (case side2 => exact HC2.out); (case side3 => exact cr_ (Kd.C_below HR0.out HB.out)); (case side4 => exact HC0.out); rintro e w' ⟨rfl, ⟨nd, rfl⟩⟩; refine ⟨_, rfl, ?_⟩) | (go_at_call 79; (with_reducible refine (swashplatelaw01_inOne.calls kj28 _ _ l2 _ _ l1 true _ ?side1 ?side2 ?side3 ?side4 A48.out).mono ?_); (case side1 => exact cr_ (Kd.C_below HR2.out (bl_ HB.out))); (case side2 => exact HC2.out); (case side3 => exact cr_ (Kd.C_below HR1.out (bl_ HB.out))); (case side4 => exact HC1.out); rintro e w' ⟨rfl, ⟨nd, rfl⟩⟩))
             go_meet
             case rel => exact ⟨_, (false), (by first | rfl | (simp; done) | (simp [*]; done)), H', ⟨by have := HJ3.out; have := HK2.out; have := HJ28.out; first | omega | exact Nat.le_refl _⟩, ⟨bl_ HB.out⟩⟩
            ·
             replace c49 := Bool.eq_false_iff.mpr c49
             subst c49
             have H1 : (if t806 = true then (swashplatelaw01_SpansCovered.j3 kj28 l0 l1 t806 true) else ((swashplatelaw01_before.f kj28 l2 t805).bind fun t814 => (swashplatelaw01_SpansCovered.j3 kj28 l0 l1 t806 t814))) = some r := by rw [if_neg (show ¬ (false = true) by decide)] at H; exact H
             clear H
             have H := H1
             clear H1
             by_cases c50 : t806 = true
             ·
              subst c50
              have H1 : (swashplatelaw01_SpansCovered.j3 kj28 l0 l1 true true) = some r := by rw [if_pos rfl] at H; exact H
              clear H
              have H := H1
              clear H1
              have H' := Aside0.mk H
              clear H
              go_wp2_with (first | ((with_reducible refine gate_callee (f := 63) rfl ?_); refine goesL_ (some 93) rfl rfl Try.func63 (by kernel_rfl) rfl #[.slice A2 l2.length c2, .slice A0 l0.length c0] rfl (by (try simp only [List.map_toArray, List.map_cons, List.map_nil]); first | done | rfl | (simp only [List.length_drop, List.length_take]; rfl)) ?_; (with_reducible refine (swashplateref01_In.calls kj28 _ _ l2 _ _ l0 true _ ?side1 ?side2 ?side3 ?side4 A46.out).mono ?_); (case side1 => exact cr_ (Kd.C_below HR2.out HB.out)); (case side2 => exact HC2.out); (case side3 => exact cr_ (Kd.C_below HR0.out HB.out)); (case side4 => exact HC0.out); rintro e w' ⟨rfl, ⟨nd, rfl⟩⟩; refine ⟨_, rfl, ?_⟩) | (go_at_call 79; (with_reducible refine (swashplatelaw01_inOne.calls kj28 _ _ l2 _ _ l1 false _ ?side1 ?side2 ?side3 ?side4 A48.out).mono ?_); (case side1 => exact cr_ (Kd.C_below HR2.out (bl_ HB.out))); (case side2 => exact HC2.out); (case side3 => exact cr_ (Kd.C_below HR1.out (bl_ HB.out))); (case side4 => exact HC1.out); rintro e w' ⟨rfl, ⟨nd, rfl⟩⟩))
              go_meet
              case rel => exact ⟨_, (true), (by first | rfl | (simp; done) | (simp [*]; done)), H', ⟨by have := HJ3.out; have := HK2.out; have := HJ28.out; first | omega | exact Nat.le_refl _⟩, ⟨bl_ HB.out⟩⟩
             ·
              replace c50 := Bool.eq_false_iff.mpr c50
              subst c50
              have H1 : ((swashplatelaw01_before.f kj28 l2 t805).bind fun t814 => (swashplatelaw01_SpansCovered.j3 kj28 l0 l1 false t814)) = some r := by rw [if_neg (show ¬ (false = true) by decide)] at H; exact H
              clear H
              have H := H1
              clear H1
              replace H := Option.bind_eq_some_iff.mp H
              obtain ⟨t814, A510, H⟩ := H
              replace H : (swashplatelaw01_SpansCovered.j3 kj28 l0 l1 false t814) = some r := H
              have A51 := Aside0.mk A510
              clear A510
              have H' := Aside0.mk H
              clear H
              go_wp2_with (first | ((with_reducible refine gate_callee (f := 63) rfl ?_); refine goesL_ (some 93) rfl rfl Try.func63 (by kernel_rfl) rfl #[.slice A2 l2.length c2, .slice A0 l0.length c0] rfl (by (try simp only [List.map_toArray, List.map_cons, List.map_nil]); first | done | rfl | (simp only [List.length_drop, List.length_take]; rfl)) ?_; (with_reducible refine (swashplateref01_In.calls kj28 _ _ l2 _ _ l0 true _ ?side1 ?side2 ?side3 ?side4 A46.out).mono ?_); (case side1 => exact cr_ (Kd.C_below HR2.out HB.out)); (case side2 => exact HC2.out); (case side3 => exact cr_ (Kd.C_below HR0.out HB.out)); (case side4 => exact HC0.out); rintro e w' ⟨rfl, ⟨nd, rfl⟩⟩; refine ⟨_, rfl, ?_⟩) | (go_at_call 79; (with_reducible refine (swashplatelaw01_inOne.calls kj28 _ _ l2 _ _ l1 false _ ?side1 ?side2 ?side3 ?side4 A48.out).mono ?_); (case side1 => exact cr_ (Kd.C_below HR2.out (bl_ HB.out))); (case side2 => exact HC2.out); (case side3 => exact cr_ (Kd.C_below HR1.out (bl_ HB.out))); (case side4 => exact HC1.out); rintro e w' ⟨rfl, ⟨nd, rfl⟩⟩; obtain ⟨Ao52, co52, eo52⟩ := Kd.R_slice HO_8.out; subst eo52) | (go_at_call 80; (with_reducible refine (swashplatelaw01_before.calls kj28 _ _ l2 _ _ t805 t814 _ ?side1 ?side2 ?side3 ?side4 A51.out).mono ?_); (case side1 => exact cr_ (Kd.C_below HR2.out (bl_ HB.out))); (case side2 => exact HC2.out); (case side3 => exact cr_ (Kd.R_reads' HO_8.out).2.2); (case side4 => exact (Kd.R_reads' HO_8.out).2.1); rintro e w' ⟨rfl, ⟨nd, rfl⟩⟩))
              go_meet
              case rel => exact ⟨_, (t814), (by first | rfl | (simp; done) | (simp [*]; done)), H', ⟨by have := HJ3.out; have := HK2.out; have := HJ28.out; first | omega | exact Nat.le_refl _⟩, ⟨bl_ HB.out⟩⟩
           ·
            replace c47 := Bool.eq_false_iff.mpr c47
            subst c47
            have H1 : (swashplatelaw01_SpansCovered.j3 kj28 l0 l1 t806 false) = some r := by rw [if_neg (show ¬ (false = true) by decide)] at H; exact H
            clear H
            have H := H1
            clear H1
            have H' := Aside0.mk H
            clear H
            go_wp2_with (first | ((with_reducible refine gate_callee (f := 63) rfl ?_); refine goesL_ (some 93) rfl rfl Try.func63 (by kernel_rfl) rfl #[.slice A2 l2.length c2, .slice A0 l0.length c0] rfl (by (try simp only [List.map_toArray, List.map_cons, List.map_nil]); first | done | rfl | (simp only [List.length_drop, List.length_take]; rfl)) ?_; (with_reducible refine (swashplateref01_In.calls kj28 _ _ l2 _ _ l0 false _ ?side1 ?side2 ?side3 ?side4 A46.out).mono ?_); (case side1 => exact cr_ (Kd.C_below HR2.out HB.out)); (case side2 => exact HC2.out); (case side3 => exact cr_ (Kd.C_below HR0.out HB.out)); (case side4 => exact HC0.out); rintro e w' ⟨rfl, ⟨nd, rfl⟩⟩; refine ⟨_, rfl, ?_⟩))
            go_meet
            case rel => exact ⟨_, (false), (by first | rfl | (simp; done) | (simp [*]; done)), H', ⟨by have := HJ3.out; have := HK2.out; have := HJ28.out; first | omega | exact Nat.le_refl _⟩, ⟨bl_ HB.out⟩⟩
          case rest =>
           clear HC45
           try clear c1
           try clear c2
           try clear p2
           try clear c3
           try clear c4
           try clear c5
           try clear c6
           try clear c6b0
           try clear c6b1
           try clear p6
           try clear c7
           try clear c7b0
           try clear c7b1
           try clear p7
           try clear q7
           try clear hx7
           try clear c11
           try clear c14
           try clear c14b0
           try clear c15
           try clear c15b0
           try clear c17
           try clear c17b0
           try clear c17b1
           try clear c18
           try clear c18b0
           try clear c18b1
           try clear c18b2
           try clear c22
           try clear c27
           try clear c28
           try clear c35
           try clear c35b0
           try clear c35b1
           try clear c36
           try clear c37
           try clear c37b0
           try clear c37b1
           try clear c37b2
           try clear c39
           try clear c44
           try clear c47
           try clear c49
           try clear c50
           try clear hx794_0
           try clear hx796_0
           try clear p2
           try clear p6
           try clear p7
           try clear p794
           try clear p796
           try clear q7
           try clear q794
           try clear q796
           obtain ⟨kq, x107_44, rfl, HA, HJ44, HB⟩ := hcut
           cases kq with
           | zero => exact absurd HA.out (by simp [swashplatelaw01_SpansCovered.j3])
           | succ kj44 =>
            have H := HA.out
            clear HA
            simp only [swashplatelaw01_SpansCovered.j3] at H
            by_cases c53 : x107_44 = true
            ·
             subst c53
             have H1 : (some false) = some r := by rw [if_pos rfl] at H; exact H
             clear H
             have H := H1
             clear H1
             exact absurd ((Option.some.inj H).trans hrT.out) (by decide)
            ·
             replace c53 := Bool.eq_false_iff.mpr c53
             subst c53
             have H1 : ((swashplateref01_CopyBoxes.f kj44 l1).bind fun t815 => ((swashplatelaw01_box.f l0).bind fun t818 => (if t815.length < 5864062014805 then ((some (t815 ++ [t818] : List (List (S27)))).bind fun y821 => ((swashplatelaw01_box.f l0).bind fun t824 => ((spans_CoversP.f t824 y821).bind fun bt827 => ((swashplateref01_CopyBoxes.f kj44 l1).bind fun t832 => ((spans_CountP.f t832).bind fun bt835 => ((spans_CountP.f y821).bind fun bt837 => (if bt827.2.2 = 0 then (if bt827.2.1 = true then (if bt835.2 = 0 then (if bt837.2 = 0 then (if bt835.1 ≥ 1000000000000000000 then (if bt837.1 ≥ bt835.1 then ((swashplatelaw01_works.f kj44).bind fun t839 => (some t839)) else (some false)) else (if ((bt837.1 == bt835.1) == t806) = true then (if bt837.1 ≥ bt835.1 then ((swashplatelaw01_works.f kj44).bind fun t840 => (some t840)) else (some false)) else (some false))) else (some false)) else (some false)) else (some false)) else (some false)))))))) else (none)))) = some r := by rw [if_neg (show ¬ (false = true) by decide)] at H; exact H
             clear H
             have H := H1
             clear H1
             replace H := Option.bind_eq_some_iff.mp H
             obtain ⟨t815, A540, H⟩ := H
             replace H : ((swashplatelaw01_box.f l0).bind fun t818 => (if t815.length < 5864062014805 then ((some (t815 ++ [t818] : List (List (S27)))).bind fun y821 => ((swashplatelaw01_box.f l0).bind fun t824 => ((spans_CoversP.f t824 y821).bind fun bt827 => ((swashplateref01_CopyBoxes.f kj44 l1).bind fun t832 => ((spans_CountP.f t832).bind fun bt835 => ((spans_CountP.f y821).bind fun bt837 => (if bt827.2.2 = 0 then (if bt827.2.1 = true then (if bt835.2 = 0 then (if bt837.2 = 0 then (if bt835.1 ≥ 1000000000000000000 then (if bt837.1 ≥ bt835.1 then ((swashplatelaw01_works.f kj44).bind fun t839 => (some t839)) else (some false)) else (if ((bt837.1 == bt835.1) == t806) = true then (if bt837.1 ≥ bt835.1 then ((swashplatelaw01_works.f kj44).bind fun t840 => (some t840)) else (some false)) else (some false))) else (some false)) else (some false)) else (some false)) else (some false)))))))) else (none))) = some r := H
             have A54 := Aside0.mk A540
             clear A540
             replace H := Option.bind_eq_some_iff.mp H
             obtain ⟨t818, A550, H⟩ := H
             replace H : (if t815.length < 5864062014805 then ((some (t815 ++ [t818] : List (List (S27)))).bind fun y821 => ((swashplatelaw01_box.f l0).bind fun t824 => ((spans_CoversP.f t824 y821).bind fun bt827 => ((swashplateref01_CopyBoxes.f kj44 l1).bind fun t832 => ((spans_CountP.f t832).bind fun bt835 => ((spans_CountP.f y821).bind fun bt837 => (if bt827.2.2 = 0 then (if bt827.2.1 = true then (if bt835.2 = 0 then (if bt837.2 = 0 then (if bt835.1 ≥ 1000000000000000000 then (if bt837.1 ≥ bt835.1 then ((swashplatelaw01_works.f kj44).bind fun t839 => (some t839)) else (some false)) else (if ((bt837.1 == bt835.1) == t806) = true then (if bt837.1 ≥ bt835.1 then ((swashplatelaw01_works.f kj44).bind fun t840 => (some t840)) else (some false)) else (some false))) else (some false)) else (some false)) else (some false)) else (some false)))))))) else (none)) = some r := H
             have A55 := Aside0.mk A550
             clear A550
             by_cases c56 : t815.length < 5864062014805
             ·
              rw [if_pos c56] at H
              have LMc56 := Aside0.mk c56
              clear c56
              obtain ⟨y821, hy821⟩ : ∃ y_ : List (List (S27)), y_ = (t815 ++ [t818]) := ⟨_, rfl⟩
              replace H : ((swashplatelaw01_box.f l0).bind fun t824 => ((spans_CoversP.f t824 y821).bind fun bt827 => ((swashplateref01_CopyBoxes.f kj44 l1).bind fun t832 => ((spans_CountP.f t832).bind fun bt835 => ((spans_CountP.f y821).bind fun bt837 => (if bt827.2.2 = 0 then (if bt827.2.1 = true then (if bt835.2 = 0 then (if bt837.2 = 0 then (if bt835.1 ≥ 1000000000000000000 then (if bt837.1 ≥ bt835.1 then ((swashplatelaw01_works.f kj44).bind fun t839 => (some t839)) else (some false)) else (if ((bt837.1 == bt835.1) == t806) = true then (if bt837.1 ≥ bt835.1 then ((swashplatelaw01_works.f kj44).bind fun t840 => (some t840)) else (some false)) else (some false))) else (some false)) else (some false)) else (some false)) else (some false))))))) = some r := by first | (rw [hy821]; with_reducible exact H) | (have H2_ := (Option.bind_some _ _).symm.trans H; rw [hy821]; with_reducible exact H2_) | (have H2_ := (Option.bind_some _ _).symm.trans H; with_reducible exact H2_) | with_reducible exact H | (rw [hy821]; exact H) | exact H
              have Ny821 := Aside0.mk hy821
              clear hy821
              replace H := Option.bind_eq_some_iff.mp H
              obtain ⟨t824, A570, H⟩ := H
              replace H : ((spans_CoversP.f t824 y821).bind fun bt827 => ((swashplateref01_CopyBoxes.f kj44 l1).bind fun t832 => ((spans_CountP.f t832).bind fun bt835 => ((spans_CountP.f y821).bind fun bt837 => (if bt827.2.2 = 0 then (if bt827.2.1 = true then (if bt835.2 = 0 then (if bt837.2 = 0 then (if bt835.1 ≥ 1000000000000000000 then (if bt837.1 ≥ bt835.1 then ((swashplatelaw01_works.f kj44).bind fun t839 => (some t839)) else (some false)) else (if ((bt837.1 == bt835.1) == t806) = true then (if bt837.1 ≥ bt835.1 then ((swashplatelaw01_works.f kj44).bind fun t840 => (some t840)) else (some false)) else (some false))) else (some false)) else (some false)) else (some false)) else (some false)))))) = some r := H
              have A57 := Aside0.mk A570
              clear A570
              replace H := Option.bind_eq_some_iff.mp H
              obtain ⟨⟨t827, t828, t829⟩, A580, H⟩ := H
              replace H : ((swashplateref01_CopyBoxes.f kj44 l1).bind fun t832 => ((spans_CountP.f t832).bind fun bt835 => ((spans_CountP.f y821).bind fun bt837 => (if t829 = 0 then (if t828 = true then (if bt835.2 = 0 then (if bt837.2 = 0 then (if bt835.1 ≥ 1000000000000000000 then (if bt837.1 ≥ bt835.1 then ((swashplatelaw01_works.f kj44).bind fun t839 => (some t839)) else (some false)) else (if ((bt837.1 == bt835.1) == t806) = true then (if bt837.1 ≥ bt835.1 then ((swashplatelaw01_works.f kj44).bind fun t840 => (some t840)) else (some false)) else (some false))) else (some false)) else (some false)) else (some false)) else (some false))))) = some r := H
              have A58 := Aside0.mk A580
              clear A580
              replace H := Option.bind_eq_some_iff.mp H
              obtain ⟨t832, A590, H⟩ := H
              replace H : ((spans_CountP.f t832).bind fun bt835 => ((spans_CountP.f y821).bind fun bt837 => (if t829 = 0 then (if t828 = true then (if bt835.2 = 0 then (if bt837.2 = 0 then (if bt835.1 ≥ 1000000000000000000 then (if bt837.1 ≥ bt835.1 then ((swashplatelaw01_works.f kj44).bind fun t839 => (some t839)) else (some false)) else (if ((bt837.1 == bt835.1) == t806) = true then (if bt837.1 ≥ bt835.1 then ((swashplatelaw01_works.f kj44).bind fun t840 => (some t840)) else (some false)) else (some false))) else (some false)) else (some false)) else (some false)) else (some false)))) = some r := H
              have A59 := Aside0.mk A590
              clear A590
              replace H := Option.bind_eq_some_iff.mp H
              obtain ⟨⟨t835, t836⟩, A600, H⟩ := H
              replace H : ((spans_CountP.f y821).bind fun bt837 => (if t829 = 0 then (if t828 = true then (if t836 = 0 then (if bt837.2 = 0 then (if t835 ≥ 1000000000000000000 then (if bt837.1 ≥ t835 then ((swashplatelaw01_works.f kj44).bind fun t839 => (some t839)) else (some false)) else (if ((bt837.1 == t835) == t806) = true then (if bt837.1 ≥ t835 then ((swashplatelaw01_works.f kj44).bind fun t840 => (some t840)) else (some false)) else (some false))) else (some false)) else (some false)) else (some false)) else (some false))) = some r := H
              have A60 := Aside0.mk A600
              clear A600
              replace H := Option.bind_eq_some_iff.mp H
              obtain ⟨⟨t837, t838⟩, A610, H⟩ := H
              replace H : (if t829 = 0 then (if t828 = true then (if t836 = 0 then (if t838 = 0 then (if t835 ≥ 1000000000000000000 then (if t837 ≥ t835 then ((swashplatelaw01_works.f kj44).bind fun t839 => (some t839)) else (some false)) else (if ((t837 == t835) == t806) = true then (if t837 ≥ t835 then ((swashplatelaw01_works.f kj44).bind fun t840 => (some t840)) else (some false)) else (some false))) else (some false)) else (some false)) else (some false)) else (some false)) = some r := H
              have A61 := Aside0.mk A610
              clear A610
              by_cases c62 : t829 = 0
              ·
               rw [if_pos c62] at H
               have c62b0 : (t829 == 0) = true := beq_iff_eq.mpr c62
               have c62b1 : (t829 != 0) = false := bne_eq_false_iff_eq.mpr c62
               clear c62
               by_cases c63 : t828 = true
               ·
                subst c63
                have H1 : (if t836 = 0 then (if t838 = 0 then (if t835 ≥ 1000000000000000000 then (if t837 ≥ t835 then ((swashplatelaw01_works.f kj44).bind fun t839 => (some t839)) else (some false)) else (if ((t837 == t835) == t806) = true then (if t837 ≥ t835 then ((swashplatelaw01_works.f kj44).bind fun t840 => (some t840)) else (some false)) else (some false))) else (some false)) else (some false)) = some r := by rw [if_pos rfl] at H; exact H
                clear H
                have H := H1
                clear H1
                by_cases c64 : t836 = 0
                ·
                 rw [if_pos c64] at H
                 have c64b0 : (t836 == 0) = true := beq_iff_eq.mpr c64
                 have c64b1 : (t836 != 0) = false := bne_eq_false_iff_eq.mpr c64
                 clear c64
                 by_cases c65 : t838 = 0
                 ·
                  rw [if_pos c65] at H
                  have c65b0 : (t838 == 0) = true := beq_iff_eq.mpr c65
                  have c65b1 : (t838 != 0) = false := bne_eq_false_iff_eq.mpr c65
                  clear c65
                  by_cases c66 : t835 ≥ 1000000000000000000
                  ·
                   rw [if_pos c66] at H
                   have c66b0 : decide (1000000000000000000 ≤ t835) = true := decide_eq_true c66
                   clear c66
                   by_cases c67 : t837 ≥ t835
                   ·
                    rw [if_pos c67] at H
                    have c67b0 : decide (t835 ≤ t837) = true := decide_eq_true c67
                    clear c67
                    replace H := Option.bind_eq_some_iff.mp H
                    obtain ⟨t839, A680, H⟩ := H
                    replace H : (some t839) = some r := H
                    have A68 := Aside0.mk A680
                    clear A680
                    obtain rfl := Option.some.inj H
                    go_wp2_with (first | ((with_reducible refine gate_callee (f := 66) rfl ?_); refine goesL_ (some 109) rfl rfl Try.func66 (by kernel_rfl) rfl #[.slice A1 l1.length c1] rfl (by (try simp only [List.map_toArray, List.map_cons, List.map_nil]); first | done | rfl | (simp only [List.length_drop, List.length_take]; rfl)) ?_; (with_reducible refine (swashplateref01_CopyBoxes.calls kj44 _ _ l1 t815 _ ?side1 ?side2 A54.out).mono ?_); (case side1 => exact cr_ (Kd.C_below HR1.out HB.out)); (case side2 => exact HC1.out); rintro e w69 ⟨v816, rfl, ho0, hb⟩; refine ⟨_, rfl, ?_⟩; have n0_ := Aside0.mk (Kd.S_lower ho0 (below_size (bl_ HB.out))); have n1_ := Aside0.mk (below_step (bl_ HB.out) hb); clear HB; have HO817 := n0_; have HB := n1_; clear n0_ n1_; (try clear hb); (try clear hb2); (try clear hk); (try clear hi); (try clear ho0)) | ((with_reducible refine gate_callee (f := 27) rfl ?_); refine goesL_ (some 111) rfl rfl Try.func27 (by kernel_rfl) rfl #[.slice A0 l0.length c0] rfl (by (try simp only [List.map_toArray, List.map_cons, List.map_nil]); first | done | rfl | (simp only [List.length_drop, List.length_take]; rfl)) ?_; (with_reducible refine (swashplatelaw01_box.calls _ _ l0 t818 _ ?side1 ?side2 A55.out).mono ?_); (case side1 => exact cr_ (Kd.C_below HR0.out HB.out)); (case side2 => exact HC0.out); rintro e w70 ⟨v819, rfl, ho0, hb⟩; refine ⟨_, rfl, ?_⟩; have n0_ := Aside0.mk (Kd.S_elder' (by (with_reducible repeat (first | apply Kd.S_alloc | apply Kd.S_drewN | apply Kd.S_drew)); exact HO817.out) (Kd.R_base ho0) hb); have n1_ := Aside0.mk (Kd.R_lower ho0 (below_size (bl_ HB.out))); have n2_ := Aside0.mk (below_step (bl_ HB.out) hb); clear HO817 HB; have HO817 := n0_; have HO820 := n1_; have HB := n2_; clear n0_ n1_ n2_; (try clear hb); (try clear hb2); (try clear hk); (try clear hi); (try clear ho0); obtain ⟨Ao72, co72, eo72⟩ := Kd.R_slice HO820.out; subst eo72) | ((with_reducible refine gate_builtin (b := .append) (xs := #[.tmp 109, .tmp 112]) rfl ?_); (try (refine gate_guard (by rfl) ?_; dsimp only)); at_builtin; refine Kd.S_append (Kd.slice 27 k27) (w0 := w) w.heap.size rfl (.tmp 109) (.tmp 112) 95 38 (.slice none 0 0) 24 rfl Try.underlying95 info38 rfl (by decide) (by omega) v816 t815 t818 [.slice Ao72 t818.length co72] (fun _ => True) (fun k_ => some k_ = (.slice Ao72 t818.length co72 : Value).ownBlock) rfl rfl ?aP (fun k_ hk_ => ((Kd.R_mono (ok' := fun k_ => ((fun _ => True)) k_ ∧ some k_ ≠ (v816 : Value).ownBlock) (Kd.R_apart' (HO820.out) (Kd.S_typed HO817.out) (by decide)) (fun k_ hk => ⟨trivial, hk.2⟩))).1 k_ hk_.symm) ?aF ?aO ?aB ?aS ?aL ?_; (case aP => exact Kd.M_row (Kd.R_mono (Kd.R_tight rfl (Kd.R_mono (ok' := fun k_ => ((fun _ => True)) k_ ∧ some k_ ≠ (v816 : Value).ownBlock) (Kd.R_apart' (HO820.out) (Kd.S_typed HO817.out) (by decide)) (fun k_ hk => ⟨trivial, hk.2⟩))) (fun _ h_ => h_))); (case aB => exact (bl_ HB.out)); (case aF => exact (fun _ _ => trivial)); (case aO => exact (by (with_reducible repeat (first | apply Kd.S_alloc | apply Kd.S_drewN | apply Kd.S_drew)); exact Kd.S_mono HO817.out (fun k_ hk => ⟨trivial, fun e_ => hk.2 e_⟩))); (case aS => exact (below_size (bl_ HB.out))); (case aL => have := LMc56.out; omega); intro v822 w71 ho hb hg hat; rw [← Ny821.out] at ho; have n0_ := Aside0.mk (hb); have n1_ := Aside0.mk (ho); clear HB HO817 HO820; have HB := n0_; have HO823 := n1_; clear n0_ n1_ ho hb hg hat) | ((with_reducible refine gate_callee (f := 27) rfl ?_); refine goesL_ (some 116) rfl rfl Try.func27 (by kernel_rfl) rfl #[.slice A0 l0.length c0] rfl (by (try simp only [List.map_toArray, List.map_cons, List.map_nil]); first | done | rfl | (simp only [List.length_drop, List.length_take]; rfl)) ?_; (with_reducible refine (swashplatelaw01_box.calls _ _ l0 t824 _ ?side1 ?side2 A57.out).mono ?_); (case side1 => exact cr_ (Kd.C_below HR0.out HB.out)); (case side2 => exact HC0.out); rintro e w73 ⟨v825, rfl, ho0, hb⟩; refine ⟨_, rfl, ?_⟩; have n0_ := Aside0.mk (Kd.S_elder' (by (with_reducible repeat (first | apply Kd.S_alloc | apply Kd.S_drewN | apply Kd.S_drew)); exact HO823.out) (Kd.R_base ho0) hb); have n1_ := Aside0.mk (Kd.R_lower ho0 (below_size (bl_ HB.out))); have n2_ := Aside0.mk (below_step (bl_ HB.out) hb); clear HO823 HB; have HO823 := n0_; have HO826 := n1_; have HB := n2_; clear n0_ n1_ n2_; (try clear hb); (try clear hb2); (try clear hk); (try clear hi); (try clear ho0); obtain ⟨Ao74, co74, eo74⟩ := Kd.R_slice HO826.out; subst eo74; obtain ⟨Ao75, co75, eo75⟩ := Kd.S_slice HO823.out; subst eo75) | ((with_reducible refine gate_callee (f := 76) rfl ?_); refine goesL_ (some 118) rfl rfl Try.func76 (by kernel_rfl) rfl #[.slice Ao74 t824.length co74, .slice Ao75 y821.length co75] rfl (by (try simp only [List.map_toArray, List.map_cons, List.map_nil]); first | done | rfl | (simp only [List.length_drop, List.length_take]; rfl)) ?_; (with_reducible refine (spans_CoversP.calls _ _ t824 _ _ y821 t827 true t829 _ ?side1 ?side2 ?side3 ?side4 A58.out).mono ?_); (case side1 => exact cr_ (Kd.R_reads' HO826.out).2.2); (case side2 => exact (Kd.R_reads' HO826.out).2.1); (case side3 => exact cr_ (Kd.S_reads' HO823.out).2.2); (case side4 => exact (Kd.S_reads' HO823.out).2.1); rintro e w76 ⟨v830, rfl, ho0, hb⟩; refine ⟨_, rfl, ?_⟩; have n0_ := Aside0.mk (Kd.S_below (by (with_reducible repeat (first | apply Kd.S_alloc | apply Kd.S_drewN | apply Kd.S_drew)); exact HO823.out) hb); have n1_ := Aside0.mk (Kd.R_below (by (with_reducible repeat (first | apply Kd.R_alloc | apply Kd.R_drewN | apply Kd.R_drew)); exact HO826.out) hb); have n2_ := Aside0.mk (Kd.R_lower ho0 (below_size (bl_ HB.out))); have n3_ := Aside0.mk (below_step (bl_ HB.out) hb); clear HO823 HO826 HB; have HO823 := n0_; have HO826 := n1_; have HO831 := n2_; have HB := n3_; clear n0_ n1_ n2_ n3_; (try clear hb); (try clear hb2); (try clear hk); (try clear hi); (try clear ho0)) | ((with_reducible refine gate_callee (f := 66) rfl ?_); refine goesL_ (some 124) rfl rfl Try.func66 (by kernel_rfl) rfl #[.slice A1 l1.length c1] rfl (by (try simp only [List.map_toArray, List.map_cons, List.map_nil]); first | done | rfl | (simp only [List.length_drop, List.length_take]; rfl)) ?_; (with_reducible refine (swashplateref01_CopyBoxes.calls kj44 _ _ l1 t832 _ ?side1 ?side2 A59.out).mono ?_); (case side1 => exact cr_ (Kd.C_below HR1.out HB.out)); (case side2 => exact HC1.out); rintro e w77 ⟨v833, rfl, ho0, hb⟩; refine ⟨_, rfl, ?_⟩; have n0_ := Aside0.mk (Kd.S_elder' (by (with_reducible repeat (first | apply Kd.S_alloc | apply Kd.S_drewN | apply Kd.S_drew)); exact HO823.out) (Kd.S_base ho0) hb); have n1_ := Aside0.mk (Kd.R_below (by (with_reducible repeat (first | apply Kd.R_alloc | apply Kd.R_drewN | apply Kd.R_drew)); exact HO826.out) hb); have n2_ := Aside0.mk (Kd.R_below (by (with_reducible repeat (first | apply Kd.R_alloc | apply Kd.R_drewN | apply Kd.R_drew)); exact HO831.out) hb); have n3_ := Aside0.mk (Kd.S_lower (Kd.S_new' (Kd.S_new' ho0 (Kd.S_lt (by (with_reducible repeat (first | apply Kd.S_alloc | apply Kd.S_drewN | apply Kd.S_drew)); exact HO823.out))) (Kd.R_lt (by (with_reducible repeat (first | apply Kd.R_alloc | apply Kd.R_drewN | apply Kd.R_drew)); exact HO826.out))) (below_size (bl_ HB.out))); have n4_ := Aside0.mk (below_step (bl_ HB.out) hb); clear HO823 HO826 HO831 HB; have HO823 := n0_; have HO826 := n1_; have HO831 := n2_; have HO834 := n3_; have HB := n4_; clear n0_ n1_ n2_ n3_ n4_; (try clear hb); (try clear hb2); (try clear hk); (try clear hi); (try clear ho0); obtain ⟨Ao78, co78, eo78⟩ := Kd.S_slice HO834.out; subst eo78) | ((with_reducible refine gate_callee (f := 65) rfl ?_); refine goesL_ (some 125) rfl rfl Try.func65 (by kernel_rfl) rfl #[.slice Ao78 t832.length co78] rfl (by (try simp only [List.map_toArray, List.map_cons, List.map_nil]); first | done | rfl | (simp only [List.length_drop, List.length_take]; rfl)) ?_; (with_reducible refine (spans_CountP.calls _ _ t832 t835 t836 _ ?side1 ?side2 A60.out).mono ?_); (case side1 => exact cr_ (Kd.S_reads' HO834.out).2.2); (case side2 => exact (Kd.S_reads' HO834.out).2.1); rintro e w79 ⟨rfl, hb⟩; refine ⟨_, rfl, ?_⟩; have n0_ := Aside0.mk (Kd.S_below (by (with_reducible repeat (first | apply Kd.S_alloc | apply Kd.S_drewN | apply Kd.S_drew)); exact HO823.out) hb); have n1_ := Aside0.mk (Kd.R_below (by (with_reducible repeat (first | apply Kd.R_alloc | apply Kd.R_drewN | apply Kd.R_drew)); exact HO826.out) hb); have n2_ := Aside0.mk (Kd.R_below (by (with_reducible repeat (first | apply Kd.R_alloc | apply Kd.R_drewN | apply Kd.R_drew)); exact HO831.out) hb); have n3_ := Aside0.mk (Kd.S_below (by (with_reducible repeat (first | apply Kd.S_alloc | apply Kd.S_drewN | apply Kd.S_drew)); exact HO834.out) hb); have n4_ := Aside0.mk (below_step (bl_ HB.out) hb); clear HO823 HO826 HO831 HO834 HB; have HO823 := n0_; have HO826 := n1_; have HO831 := n2_; have HO834 := n3_; have HB := n4_; clear n0_ n1_ n2_ n3_ n4_; (try clear hb); (try clear hb2); (try clear hk); (try clear hi)) | ((with_reducible refine gate_callee (f := 65) rfl ?_); refine goesL_ (some 130) rfl rfl Try.func65 (by kernel_rfl) rfl #[.slice Ao75 y821.length co75] rfl (by (try simp only [List.map_toArray, List.map_cons, List.map_nil]); first | done | rfl | (simp only [List.length_drop, List.length_take]; rfl)) ?_; (with_reducible refine (spans_CountP.calls _ _ y821 t837 t838 _ ?side1 ?side2 A61.out).mono ?_); (case side1 => exact cr_ (Kd.S_reads' HO823.out).2.2); (case side2 => exact (Kd.S_reads' HO823.out).2.1); rintro e w80 ⟨rfl, hb⟩; refine ⟨_, rfl, ?_⟩; have n0_ := Aside0.mk (Kd.S_below (by (with_reducible repeat (first | apply Kd.S_alloc | apply Kd.S_drewN | apply Kd.S_drew)); exact HO823.out) hb); have n1_ := Aside0.mk (Kd.R_below (by (with_reducible repeat (first | apply Kd.R_alloc | apply Kd.R_drewN | apply Kd.R_drew)); exact HO826.out) hb); have n2_ := Aside0.mk (Kd.R_below (by (with_reducible repeat (first | apply Kd.R_alloc | apply Kd.R_drewN | apply Kd.R_drew)); exact HO831.out) hb); have n3_ := Aside0.mk (Kd.S_below (by (with_reducible repeat (first | apply Kd.S_alloc | apply Kd.S_drewN | apply Kd.S_drew)); exact HO834.out) hb); have n4_ := Aside0.mk (below_step (bl_ HB.out) hb); clear HO823 HO826 HO831 HO834 HB; have HO823 := n0_; have HO826 := n1_; have HO831 := n2_; have HO834 := n3_; have HB := n4_; clear n0_ n1_ n2_ n3_ n4_; (try clear hb); (try clear hb2); (try clear hk); (try clear hi)) | (go_at_call 22; (with_reducible refine (swashplatelaw01_works.calls kj44  t839 _ A68.out).mono ?_); rintro e w81 ⟨rfl, hb⟩; have n0_ := Aside0.mk (Kd.S_below (by (with_reducible repeat (first | apply Kd.S_alloc | apply Kd.S_drewN | apply Kd.S_drew)); exact HO823.out) hb); have n1_ := Aside0.mk (Kd.R_below (by (with_reducible repeat (first | apply Kd.R_alloc | apply Kd.R_drewN | apply Kd.R_drew)); exact HO826.out) hb); have n2_ := Aside0.mk (Kd.R_below (by (with_reducible repeat (first | apply Kd.R_alloc | apply Kd.R_drewN | apply Kd.R_drew)); exact HO831.out) hb); have n3_ := Aside0.mk (Kd.S_below (by (with_reducible repeat (first | apply Kd.S_alloc | apply Kd.S_drewN | apply Kd.S_drew)); exact HO834.out) hb); have n4_ := Aside0.mk (below_step (bl_ HB.out) hb); clear HO823 HO826 HO831 HO834 HB; have HO823 := n0_; have HO826 := n1_; have HO831 := n2_; have HO834 := n3_; have HB := n4_; clear n0_ n1_ n2_ n3_ n4_; (try clear hb); (try clear hb2); (try clear hk); (try clear hi)))
                    go_ret
                    exact ⟨by first | rfl | (simp [errW_none, errW_some] <;> rfl) | (simp [*, errW_none, errW_some] <;> rfl), bl_ HB.out⟩
                   ·
                    rw [if_neg c67] at H
                    have c67b0 : decide (t835 ≤ t837) = false := decide_eq_false c67
                    clear c67
                    exact absurd ((Option.some.inj H).trans hrT.out) (by decide)
                  ·
                   rw [if_neg c66] at H
                   have c66b0 : decide (1000000000000000000 ≤ t835) = false := decide_eq_false c66
                   clear c66
                   by_cases c94 : ((t837 == t835) == t806) = true
                   ·
                    rw [if_pos c94] at H
                    have c94b0 : ((t837 == t835) == t806) = true := c94
                    (try (have c94b1 : decide ((t837 == t835) = t806) = true := by simpa using c94))
                    (try (have c94b2 : ((t837 == t835) == t806) = true := by simpa using c94))
                    clear c94
                    by_cases c95 : t837 ≥ t835
                    ·
                     rw [if_pos c95] at H
                     have c95b0 : decide (t835 ≤ t837) = true := decide_eq_true c95
                     clear c95
                     replace H := Option.bind_eq_some_iff.mp H
                     obtain ⟨t840, A960, H⟩ := H
                     replace H : (some t840) = some r := H
                     have A96 := Aside0.mk A960
                     clear A960
                     obtain rfl := Option.some.inj H
                     go_wp2_with (first | ((with_reducible refine gate_callee (f := 66) rfl ?_); refine goesL_ (some 109) rfl rfl Try.func66 (by kernel_rfl) rfl #[.slice A1 l1.length c1] rfl (by (try simp only [List.map_toArray, List.map_cons, List.map_nil]); first | done | rfl | (simp only [List.length_drop, List.length_take]; rfl)) ?_; (with_reducible refine (swashplateref01_CopyBoxes.calls kj44 _ _ l1 t815 _ ?side1 ?side2 A54.out).mono ?_); (case side1 => exact cr_ (Kd.C_below HR1.out HB.out)); (case side2 => exact HC1.out); rintro e w97 ⟨v816, rfl, ho0, hb⟩; refine ⟨_, rfl, ?_⟩; have n0_ := Aside0.mk (Kd.S_lower ho0 (below_size (bl_ HB.out))); have n1_ := Aside0.mk (below_step (bl_ HB.out) hb); clear HB; have HO817 := n0_; have HB := n1_; clear n0_ n1_; (try clear hb); (try clear hb2); (try clear hk); (try clear hi); (try clear ho0)) | ((with_reducible refine gate_callee (f := 27) rfl ?_); refine goesL_ (some 111) rfl rfl Try.func27 (by kernel_rfl) rfl #[.slice A0 l0.length c0] rfl (by (try simp only [List.map_toArray, List.map_cons, List.map_nil]); first | done | rfl | (simp only [List.length_drop, List.length_take]; rfl)) ?_; (with_reducible refine (swashplatelaw01_box.calls _ _ l0 t818 _ ?side1 ?side2 A55.out).mono ?_); (case side1 => exact cr_ (Kd.C_below HR0.out HB.out)); (case side2 => exact HC0.out); rintro e w98 ⟨v819, rfl, ho0, hb⟩; refine ⟨_, rfl, ?_⟩; have n0_ := Aside0.mk (Kd.S_elder' (by (with_reducible repeat (first | apply Kd.S_alloc | apply Kd.S_drewN | apply Kd.S_drew)); exact HO817.out) (Kd.R_base ho0) hb); have n1_ := Aside0.mk (Kd.R_lower ho0 (below_size (bl_ HB.out))); have n2_ := Aside0.mk (below_step (bl_ HB.out) hb); clear HO817 HB; have HO817 := n0_; have HO820 := n1_; have HB := n2_; clear n0_ n1_ n2_; (try clear hb); (try clear hb2); (try clear hk); (try clear hi); (try clear ho0); obtain ⟨Ao100, co100, eo100⟩ := Kd.R_slice HO820.out; subst eo100) | ((with_reducible refine gate_builtin (b := .append) (xs := #[.tmp 109, .tmp 112]) rfl ?_); (try (refine gate_guard (by rfl) ?_; dsimp only)); at_builtin; refine Kd.S_append (Kd.slice 27 k27) (w0 := w) w.heap.size rfl (.tmp 109) (.tmp 112) 95 38 (.slice none 0 0) 24 rfl Try.underlying95 info38 rfl (by decide) (by omega) v816 t815 t818 [.slice Ao100 t818.length co100] (fun _ => True) (fun k_ => some k_ = (.slice Ao100 t818.length co100 : Value).ownBlock) rfl rfl ?aP (fun k_ hk_ => ((Kd.R_mono (ok' := fun k_ => ((fun _ => True)) k_ ∧ some k_ ≠ (v816 : Value).ownBlock) (Kd.R_apart' (HO820.out) (Kd.S_typed HO817.out) (by decide)) (fun k_ hk => ⟨trivial, hk.2⟩))).1 k_ hk_.symm) ?aF ?aO ?aB ?aS ?aL ?_; (case aP => exact Kd.M_row (Kd.R_mono (Kd.R_tight rfl (Kd.R_mono (ok' := fun k_ => ((fun _ => True)) k_ ∧ some k_ ≠ (v816 : Value).ownBlock) (Kd.R_apart' (HO820.out) (Kd.S_typed HO817.out) (by decide)) (fun k_ hk => ⟨trivial, hk.2⟩))) (fun _ h_ => h_))); (case aB => exact (bl_ HB.out)); (case aF => exact (fun _ _ => trivial)); (case aO => exact (by (with_reducible repeat (first | apply Kd.S_alloc | apply Kd.S_drewN | apply Kd.S_drew)); exact Kd.S_mono HO817.out (fun k_ hk => ⟨trivial, fun e_ => hk.2 e_⟩))); (case aS => exact (below_size (bl_ HB.out))); (case aL => have := LMc56.out; omega); intro v822 w99 ho hb hg hat; rw [← Ny821.out] at ho; have n0_ := Aside0.mk (hb); have n1_ := Aside0.mk (ho); clear HB HO817 HO820; have HB := n0_; have HO823 := n1_; clear n0_ n1_ ho hb hg hat) | ((with_reducible refine gate_callee (f := 27) rfl ?_); refine goesL_ (some 116) rfl rfl Try.func27 (by kernel_rfl) rfl #[.slice A0 l0.length c0] rfl (by (try simp only [List.map_toArray, List.map_cons, List.map_nil]); first | done | rfl | (simp only [List.length_drop, List.length_take]; rfl)) ?_; (with_reducible refine (swashplatelaw01_box.calls _ _ l0 t824 _ ?side1 ?side2 A57.out).mono ?_); (case side1 => exact cr_ (Kd.C_below HR0.out HB.out)); (case side2 => exact HC0.out); rintro e w101 ⟨v825, rfl, ho0, hb⟩; refine ⟨_, rfl, ?_⟩; have n0_ := Aside0.mk (Kd.S_elder' (by (with_reducible repeat (first | apply Kd.S_alloc | apply Kd.S_drewN | apply Kd.S_drew)); exact HO823.out) (Kd.R_base ho0) hb); have n1_ := Aside0.mk (Kd.R_lower ho0 (below_size (bl_ HB.out))); have n2_ := Aside0.mk (below_step (bl_ HB.out) hb); clear HO823 HB; have HO823 := n0_; have HO826 := n1_; have HB := n2_; clear n0_ n1_ n2_; (try clear hb); (try clear hb2); (try clear hk); (try clear hi); (try clear ho0); obtain ⟨Ao102, co102, eo102⟩ := Kd.R_slice HO826.out; subst eo102; obtain ⟨Ao103, co103, eo103⟩ := Kd.S_slice HO823.out; subst eo103) | ((with_reducible refine gate_callee (f := 76) rfl ?_); refine goesL_ (some 118) rfl rfl Try.func76 (by kernel_rfl) rfl #[.slice Ao102 t824.length co102, .slice Ao103 y821.length co103] rfl (by (try simp only [List.map_toArray, List.map_cons, List.map_nil]); first | done | rfl | (simp only [List.length_drop, List.length_take]; rfl)) ?_; (with_reducible refine (spans_CoversP.calls _ _ t824 _ _ y821 t827 true t829 _ ?side1 ?side2 ?side3 ?side4 A58.out).mono ?_); (case side1 => exact cr_ (Kd.R_reads' HO826.out).2.2); (case side2 => exact (Kd.R_reads' HO826.out).2.1); (case side3 => exact cr_ (Kd.S_reads' HO823.out).2.2); (case side4 => exact (Kd.S_reads' HO823.out).2.1); rintro e w104 ⟨v830, rfl, ho0, hb⟩; refine ⟨_, rfl, ?_⟩; have n0_ := Aside0.mk (Kd.S_below (by (with_reducible repeat (first | apply Kd.S_alloc | apply Kd.S_drewN | apply Kd.S_drew)); exact HO823.out) hb); have n1_ := Aside0.mk (Kd.R_below (by (with_reducible repeat (first | apply Kd.R_alloc | apply Kd.R_drewN | apply Kd.R_drew)); exact HO826.out) hb); have n2_ := Aside0.mk (Kd.R_lower ho0 (below_size (bl_ HB.out))); have n3_ := Aside0.mk (below_step (bl_ HB.out) hb); clear HO823 HO826 HB; have HO823 := n0_; have HO826 := n1_; have HO831 := n2_; have HB := n3_; clear n0_ n1_ n2_ n3_; (try clear hb); (try clear hb2); (try clear hk); (try clear hi); (try clear ho0)) | ((with_reducible refine gate_callee (f := 66) rfl ?_); refine goesL_ (some 124) rfl rfl Try.func66 (by kernel_rfl) rfl #[.slice A1 l1.length c1] rfl (by (try simp only [List.map_toArray, List.map_cons, List.map_nil]); first | done | rfl | (simp only [List.length_drop, List.length_take]; rfl)) ?_; (with_reducible refine (swashplateref01_CopyBoxes.calls kj44 _ _ l1 t832 _ ?side1 ?side2 A59.out).mono ?_); (case side1 => exact cr_ (Kd.C_below HR1.out HB.out)); (case side2 => exact HC1.out); rintro e w105 ⟨v833, rfl, ho0, hb⟩; refine ⟨_, rfl, ?_⟩; have n0_ := Aside0.mk (Kd.S_elder' (by (with_reducible repeat (first | apply Kd.S_alloc | apply Kd.S_drewN | apply Kd.S_drew)); exact HO823.out) (Kd.S_base ho0) hb); have n1_ := Aside0.mk (Kd.R_below (by (with_reducible repeat (first | apply Kd.R_alloc | apply Kd.R_drewN | apply Kd.R_drew)); exact HO826.out) hb); have n2_ := Aside0.mk (Kd.R_below (by (with_reducible repeat (first | apply Kd.R_alloc | apply Kd.R_drewN | apply Kd.R_drew)); exact HO831.out) hb); have n3_ := Aside0.mk (Kd.S_lower (Kd.S_new' (Kd.S_new' ho0 (Kd.S_lt (by (with_reducible repeat (first | apply Kd.S_alloc | apply Kd.S_drewN | apply Kd.S_drew)); exact HO823.out))) (Kd.R_lt (by (with_reducible repeat (first | apply Kd.R_alloc | apply Kd.R_drewN | apply Kd.R_drew)); exact HO826.out))) (below_size (bl_ HB.out))); have n4_ := Aside0.mk (below_step (bl_ HB.out) hb); clear HO823 HO826 HO831 HB; have HO823 := n0_; have HO826 := n1_; have HO831 := n2_; have HO834 := n3_; have HB := n4_; clear n0_ n1_ n2_ n3_ n4_; (try clear hb); (try clear hb2); (try clear hk); (try clear hi); (try clear ho0); obtain ⟨Ao106, co106, eo106⟩ := Kd.S_slice HO834.out; subst eo106) | ((with_reducible refine gate_callee (f := 65) rfl ?_); refine goesL_ (some 125) rfl rfl Try.func65 (by kernel_rfl) rfl #[.slice Ao106 t832.length co106] rfl (by (try simp only [List.map_toArray, List.map_cons, List.map_nil]); first | done | rfl | (simp only [List.length_drop, List.length_take]; rfl)) ?_; (with_reducible refine (spans_CountP.calls _ _ t832 t835 t836 _ ?side1 ?side2 A60.out).mono ?_); (case side1 => exact cr_ (Kd.S_reads' HO834.out).2.2); (case side2 => exact (Kd.S_reads' HO834.out).2.1); rintro e w107 ⟨rfl, hb⟩; refine ⟨_, rfl, ?_⟩; have n0_ := Aside0.mk (Kd.S_below (by (with_reducible repeat (first | apply Kd.S_alloc | apply Kd.S_drewN | apply Kd.S_drew)); exact HO823.out) hb); have n1_ := Aside0.mk (Kd.R_below (by (with_reducible repeat (first | apply Kd.R_alloc | apply Kd.R_drewN | apply Kd.R_drew)); exact HO826.out) hb); have n2_ := Aside0.mk (Kd.R_below (by (with_reducible repeat (first | apply Kd.R_alloc | apply Kd.R_drewN | apply Kd.R_drew)); exact HO831.out) hb); have n3_ := Aside0.mk (Kd.S_below (by (with_reducible repeat (first | apply Kd.S_alloc | apply Kd.S_drewN | apply Kd.S_drew)); exact HO834.out) hb); have n4_ := Aside0.mk (below_step (bl_ HB.out) hb); clear HO823 HO826 HO831 HO834 HB; have HO823 := n0_; have HO826 := n1_; have HO831 := n2_; have HO834 := n3_; have HB := n4_; clear n0_ n1_ n2_ n3_ n4_; (try clear hb); (try clear hb2); (try clear hk); (try clear hi)) | ((with_reducible refine gate_callee (f := 65) rfl ?_); refine goesL_ (some 130) rfl rfl Try.func65 (by kernel_rfl) rfl #[.slice Ao103 y821.length co103] rfl (by (try simp only [List.map_toArray, List.map_cons, List.map_nil]); first | done | rfl | (simp only [List.length_drop, List.length_take]; rfl)) ?_; (with_reducible refine (spans_CountP.calls _ _ y821 t837 t838 _ ?side1 ?side2 A61.out).mono ?_); (case side1 => exact cr_ (Kd.S_reads' HO823.out).2.2); (case side2 => exact (Kd.S_reads' HO823.out).2.1); rintro e w108 ⟨rfl, hb⟩; refine ⟨_, rfl, ?_⟩; have n0_ := Aside0.mk (Kd.S_below (by (with_reducible repeat (first | apply Kd.S_alloc | apply Kd.S_drewN | apply Kd.S_drew)); exact HO823.out) hb); have n1_ := Aside0.mk (Kd.R_below (by (with_reducible repeat (first | apply Kd.R_alloc | apply Kd.R_drewN | apply Kd.R_drew)); exact HO826.out) hb); have n2_ := Aside0.mk (Kd.R_below (by (with_reducible repeat (first | apply Kd.R_alloc | apply Kd.R_drewN | apply Kd.R_drew)); exact HO831.out) hb); have n3_ := Aside0.mk (Kd.S_below (by (with_reducible repeat (first | apply Kd.S_alloc | apply Kd.S_drewN | apply Kd.S_drew)); exact HO834.out) hb); have n4_ := Aside0.mk (below_step (bl_ HB.out) hb); clear HO823 HO826 HO831 HO834 HB; have HO823 := n0_; have HO826 := n1_; have HO831 := n2_; have HO834 := n3_; have HB := n4_; clear n0_ n1_ n2_ n3_ n4_; (try clear hb); (try clear hb2); (try clear hk); (try clear hi)) | (go_at_call 22; (with_reducible refine (swashplatelaw01_works.calls kj44  t840 _ A96.out).mono ?_); rintro e w109 ⟨rfl, hb⟩; have n0_ := Aside0.mk (Kd.S_below (by (with_reducible repeat (first | apply Kd.S_alloc | apply Kd.S_drewN | apply Kd.S_drew)); exact HO823.out) hb); have n1_ := Aside0.mk (Kd.R_below (by (with_reducible repeat (first | apply Kd.R_alloc | apply Kd.R_drewN | apply Kd.R_drew)); exact HO826.out) hb); have n2_ := Aside0.mk (Kd.R_below (by (with_reducible repeat (first | apply Kd.R_alloc | apply Kd.R_drewN | apply Kd.R_drew)); exact HO831.out) hb); have n3_ := Aside0.mk (Kd.S_below (by (with_reducible repeat (first | apply Kd.S_alloc | apply Kd.S_drewN | apply Kd.S_drew)); exact HO834.out) hb); have n4_ := Aside0.mk (below_step (bl_ HB.out) hb); clear HO823 HO826 HO831 HO834 HB; have HO823 := n0_; have HO826 := n1_; have HO831 := n2_; have HO834 := n3_; have HB := n4_; clear n0_ n1_ n2_ n3_ n4_; (try clear hb); (try clear hb2); (try clear hk); (try clear hi)))
                     go_ret
                     exact ⟨by first | rfl | (simp [errW_none, errW_some] <;> rfl) | (simp [*, errW_none, errW_some] <;> rfl), bl_ HB.out⟩
                    ·
                     rw [if_neg c95] at H
                     have c95b0 : decide (t835 ≤ t837) = false := decide_eq_false c95
                     clear c95
                     exact absurd ((Option.some.inj H).trans hrT.out) (by decide)
                   ·
                    rw [if_neg c94] at H
                    have c94b0 : ((t837 == t835) == t806) = false := by simpa using c94
                    (try (have c94b1 : decide ((t837 == t835) = t806) = false := by simpa using c94))
                    (try (have c94b2 : ((t837 == t835) == t806) = false := by simpa using c94))
                    (try (have c94b3 : ¬ ((t837 == t835) = t806) := by simpa using c94))
                    clear c94
                    exact absurd ((Option.some.inj H).trans hrT.out) (by decide)
                 ·
                  rw [if_neg c65] at H
                  have c65b0 : (t838 == 0) = false := beq_eq_false_iff_ne.mpr c65
                  have c65b1 : (t838 != 0) = true := bne_iff_ne.mpr c65
                  exact absurd ((Option.some.inj H).trans hrT.out) (by decide)
                ·
                 rw [if_neg c64] at H
                 have c64b0 : (t836 == 0) = false := beq_eq_false_iff_ne.mpr c64
                 have c64b1 : (t836 != 0) = true := bne_iff_ne.mpr c64
                 exact absurd ((Option.some.inj H).trans hrT.out) (by decide)
               ·
                replace c63 := Bool.eq_false_iff.mpr c63
                subst c63
                have H1 : (some false) = some r := by rw [if_neg (show ¬ (false = true) by decide)] at H; exact H
                clear H
                have H := H1
                clear H1
                exact absurd ((Option.some.inj H).trans hrT.out) (by decide)
              ·
               rw [if_neg c62] at H
               have c62b0 : (t829 == 0) = false := beq_eq_false_iff_ne.mpr c62
               have c62b1 : (t829 != 0) = true := bne_iff_ne.mpr c62
               exact absurd ((Option.some.inj H).trans hrT.out) (by decide)
             ·
              rw [if_neg c56] at H
              exact absurd H (by simp)
end Go.Proofs.Yteodlmgmmpkpoaa.PS
end
section
namespace Go.Proofs.Yteodlmgmmpkpoaa.PS
open Go.RowKit Go.Proofs.YteodlmgmmpkpoaaW.PrintWords Go.Proofs.YteodlmgmmpkpoaaW.PrintLast Go.Proofs.YteodlmgmmpkpoaaW.PrintMore
set_option linter.unusedVariables false
set_option linter.unusedSimpArgs false
theorem bef_trans : ∀ (a b c : List Int), a.length = b.length → b.length = c.length → befB a b = false → befB b c = false → befB a c = false
  | [], [], [], _, _, _, _ => rfl
  | x :: a, y :: b, z :: c, h1, h2, hab, hbc => by
    simp only [befB] at hab hbc ⊢
    have ih := bef_trans a b c (by simpa using h1) (by simpa using h2)
    by_cases e1 : x = y
    · rw [if_pos e1] at hab
      by_cases e2 : y = z
      · rw [if_pos e2] at hbc
        rw [if_pos (e1.trans e2)]
        exact ih hab hbc
      · rw [if_neg e2, decide_eq_false_iff_not] at hbc
        rw [if_neg (by omega), decide_eq_false_iff_not]
        omega
    · rw [if_neg e1, decide_eq_false_iff_not] at hab
      by_cases e2 : y = z
      · rw [if_neg (by omega), decide_eq_false_iff_not]
        omega
      · rw [if_neg e2, decide_eq_false_iff_not] at hbc
        rw [if_neg (by omega), decide_eq_false_iff_not]
        omega
theorem bef_asym : ∀ (a b : List Int), befB a b = true → befB b a = false
  | [], _, _ => by cases ‹List Int› <;> rfl
  | x :: a, [], _ => rfl
  | x :: a, y :: b, h => by
    simp only [befB] at h ⊢
    by_cases e : x = y
    · rw [if_pos e] at h
      rw [if_pos e.symm]
      exact bef_asym a b h
    · rw [if_neg e, decide_eq_true_eq] at h
      rw [if_neg (fun h => e h.symm), decide_eq_false_iff_not]
      omega
theorem first_min (d : Nat) (L : List (List Int)) (hL : ∀ q ∈ L, q.length = d) : ∀ q ∈ L, befB q (firstT L) = false := by
  have key : ∀ (l : List (List Int)) (m : List Int), m.length = d → (∀ q ∈ l, q.length = d) → (l.foldl (fun m q => if befB q m then q else m) m).length = d ∧ befB m (l.foldl (fun m q => if befB q m then q else m) m) = false ∧ ∀ q ∈ l, befB q (l.foldl (fun m q => if befB q m then q else m) m) = false := by
    intro l
    induction l with
    | nil =>
      intro m hm _
      refine ⟨hm, ?_, by simp⟩
      rcases Bool.eq_false_or_eq_true (befB m m) with h | h
      · have := bef_asym m m h; rw [h] at this; cases this
      · exact h
    | cons a l ih =>
      intro m hm h
      have ha := h a List.mem_cons_self
      rw [List.foldl_cons]
      rcases Bool.eq_false_or_eq_true (befB a m) with hb | hb
      · rw [hb, if_pos rfl]
        obtain ⟨i1, i2, i3⟩ := ih a ha (fun q hq => h q (List.mem_cons_of_mem _ hq))
        refine ⟨i1, bef_trans m a _ (by omega) (by omega) (bef_asym a m hb) i2, fun q hq => ?_⟩
        rcases List.mem_cons.1 hq with rfl | hq
        · exact i2
        · exact i3 q hq
      · rw [hb, if_neg (by decide)]
        obtain ⟨i1, i2, i3⟩ := ih m hm (fun q hq => h q (List.mem_cons_of_mem _ hq))
        refine ⟨i1, i2, fun q hq => ?_⟩
        rcases List.mem_cons.1 hq with rfl | hq
        · exact bef_trans q m _ (by omega) (by omega) hb i2
        · exact i3 q hq
  cases L with
  | nil => intro q hq; simp at hq
  | cons p l =>
    obtain ⟨_, h2, h3⟩ := key l p (hL p List.mem_cons_self) (fun q hq => hL q (List.mem_cons_of_mem _ hq))
    intro q hq
    rcases List.mem_cons.1 hq with rfl | hq
    · exact h2
    · exact h3 q hq
theorem in_low : ∀ (p : List Int) (y : List S27), inT p y = true → befB p (lowsT y) = false
  | [], _, _ => by simp [befB]
  | x :: p, [], _ => by simp [befB, lowsT]
  | x :: p, s :: y, h => by
    simp only [inT, Bool.and_eq_true, decide_eq_true_eq] at h
    show (if x = s.f0 then befB p (lowsT y) else decide (x < s.f0)) = false
    by_cases e : x = s.f0
    · rw [if_pos e]; exact in_low p y h.2
    · rw [if_neg e, decide_eq_false_iff_not]; omega
theorem low_in : ∀ y : List S27, okA y = true → inT (lowsT y) y = true
  | [], _ => rfl
  | s :: y, h => by
    obtain ⟨h1, h2⟩ := (okA_cons _ _).1 h
    show ((decide (s.f0 ≤ s.f0) && decide (s.f0 ≤ s.f1)) && inT (lowsT y) y) = true
    rw [low_in y h2, decide_eq_true (Int.le_refl _), decide_eq_true h1.2.1]
    rfl
theorem cnt_pos {p : List Int} {y : List S27} {L : List (List S27)} (hy : y ∈ L) (h : inT p y = true) : 1 ≤ cnt p L := by
  unfold cnt
  exact List.length_pos_of_mem (List.mem_filter.2 ⟨hy, h⟩)
theorem cnt_ex {p : List Int} {L : List (List S27)} (h : 1 ≤ cnt p L) : ∃ y ∈ L, inT p y = true := by
  unfold cnt at h
  obtain ⟨y, hy⟩ := List.exists_mem_of_length_pos h
  exact ⟨y, (List.mem_filter.1 hy).1, (List.mem_filter.1 hy).2⟩
theorem listE_zero {l : List (List S27)} {n : Nat} (h : ∀ x ∈ l, boxB x = true ∧ x.length = n) : listE l = 0 := by
  unfold listE
  rw [if_pos (List.all_eq_true.2 fun x hx => (h x hx).1)]
  rw [if_pos]
  unfold sameB
  refine List.all_eq_true.2 fun x hx => beq_iff_eq.2 ?_
  cases l with
  | nil => simp at hx
  | cons a l => rw [List.headD_cons, (h x hx).2, (h a List.mem_cons_self).2]
theorem count_snoc (a : List S27) : ∀ (l pre : List (List S27)) (s : Int), countT pre (l ++ [a]) s = satT ((leftT a (pre ++ l)).map sizeT) (countT pre l s)
  | [], pre, s => by simp [countT]
  | b :: l, pre, s => by
    simp only [List.cons_append, countT]
    rw [count_snoc a l (pre ++ [b]), List.append_assoc]
    rfl
theorem sat_ge : ∀ (L : List (List S27)), (∀ x ∈ L, okA x = true) → ∀ s : Int, s ≤ 1000000000000000000 → s ≤ satT (L.map sizeT) s ∧ satT (L.map sizeT) s ≤ 1000000000000000000
  | [], _, s, hs => ⟨Int.le_refl _, hs⟩
  | x :: L, h, s, hs => by
    have hx := size_pos (h x List.mem_cons_self)
    have ih := sat_ge L (fun y hy => h y (List.mem_cons_of_mem _ hy)) (min (s + sizeT x) 1000000000000000000) (by omega)
    rw [List.map_cons]
    show s ≤ satT (L.map sizeT) (min (s + sizeT x) 1000000000000000000) ∧ satT (L.map sizeT) (min (s + sizeT x) 1000000000000000000) ≤ _
    omega
theorem sat_gt (L : List (List S27)) (h : ∀ x ∈ L, okA x = true) (hL : L ≠ []) (s : Int) (hs : s < 1000000000000000000) : s < satT (L.map sizeT) s := by
  cases L with
  | nil => exact absurd rfl hL
  | cons x L =>
    have hx := size_pos (h x List.mem_cons_self)
    have ih := sat_ge L (fun y hy => h y (List.mem_cons_of_mem _ hy)) (min (s + sizeT x) 1000000000000000000) (by omega)
    rw [List.map_cons]
    show s < satT (L.map sizeT) (min (s + sizeT x) 1000000000000000000)
    omega
theorem count_le (d : Nat) (l : List (List S27)) (h : ∀ b ∈ l, boxB b = true ∧ b.length = d) : countT [] l 0 ≤ 1000000000000000000 := by
  have hc := count_vol d l [] h 0 (Int.le_refl _)
  rw [show min (0 : Int) 1000000000000000000 = 0 by omega] at hc
  omega
structure CovF (a : List S27) (l : List (List S27)) (p : List Int) : Prop where
  point : leftT a l ≠ [] → (firstT ((leftT a l).map lowsT)).length = a.length ∧ inT (firstT ((leftT a l).map lowsT)) a = true ∧ l.any (inT (firstT ((leftT a l).map lowsT))) = false
  outer : inT p a = true → l.any (inT p) = false → leftT a l ≠ [] ∧ befB p (firstT ((leftT a l).map lowsT)) = false
  all : leftT a (l ++ [a]) = []
theorem any_all (l : List (List S27)) (p : List Int) : l.any (inT p) = !l.all (fun b => !inT p b) := by
  induction l with
  | nil => rfl
  | cons b l ih => rw [List.any_cons, List.all_cons, ih]; cases inT p b <;> simp
theorem cov_facts (a : List S27) (l : List (List S27)) (p : List Int) (ha : boxB a = true) (hl : ∀ b ∈ l, boxB b = true ∧ b.length = a.length) (hp : p.length = a.length) : CovF a l p := by
  have hok := leftT_ok (a := a) (l := l) ha rfl hl
  have hlc : ∀ q : List Int, q.length = a.length → cnt q (leftT a l) = if inT q a && l.all (fun b => !inT q b) then 1 else 0 := fun q hq => left_cnt q a (boxB_ok ha) hq l (fun b hb => ⟨boxB_ok (hl b hb).1, (hl b hb).2⟩)
  refine ⟨fun hne => ?_, fun h1 h2 => ?_, ?_⟩
  · have hn : ((leftT a l).map lowsT) ≠ [] := by simpa using hne
    obtain ⟨y, hy, e⟩ := List.mem_map.1 (firstT_mem _ hn)
    rw [← e]
    have hyl : (lowsT y).length = a.length := by unfold lowsT; rw [List.length_map]; exact (hok.1 y hy).2
    have hc := hlc _ hyl
    have hpos := cnt_pos hy (low_in y (boxB_ok (hok.1 y hy).1))
    rw [any_all]
    by_cases hb : (inT (lowsT y) a && l.all (fun b => !inT (lowsT y) b)) = true
    · rw [Bool.and_eq_true] at hb
      exact ⟨hyl, hb.1, by rw [hb.2]; rfl⟩
    · rw [if_neg hb] at hc
      omega
  · have hc := hlc p hp
    rw [any_all, Bool.not_eq_false'] at h2
    rw [h1, h2, Bool.and_self, if_pos rfl] at hc
    obtain ⟨y, hy, hin⟩ := cnt_ex (by omega : 1 ≤ cnt p (leftT a l))
    refine ⟨fun e => by rw [e] at hy; simp at hy, ?_⟩
    have hlen : ∀ q ∈ (leftT a l).map lowsT, q.length = a.length := fun q hq => by
      obtain ⟨z, hz, rfl⟩ := List.mem_map.1 hq
      unfold lowsT; rw [List.length_map]; exact (hok.1 z hz).2
    have hm : lowsT y ∈ (leftT a l).map lowsT := List.mem_map.2 ⟨y, hy, rfl⟩
    have hne : (leftT a l).map lowsT ≠ [] := fun e => by rw [e] at hm; simp at hm
    exact bef_trans p (lowsT y) _ (by rw [hlen _ hm]; exact hp) (by rw [hlen _ hm, hlen _ (firstT_mem _ hne)]) (in_low p y hin) (first_min a.length _ hlen _ hm)
  · rw [leftT_snoc]
    have hok2 := restT_ok (L := leftT a l) (b := a) (n := a.length) ha rfl hok.1
    cases hR : restT (leftT a l) a with
    | nil => rfl
    | cons y R =>
      have hy : y ∈ restT (leftT a l) a := by rw [hR]; exact List.mem_cons_self
      have hyo := hok2.1 y hy
      have hyl : (lowsT y).length = a.length := by unfold lowsT; rw [List.length_map]; exact hyo.2
      have hpos := cnt_pos hy (low_in y (boxB_ok hyo.1))
      rw [rest_cnt (lowsT y) a (boxB_ok ha) hyl (leftT a l) (fun x hx => ⟨boxB_ok (hok.1 x hx).1, (hok.1 x hx).2⟩), hlc _ hyl] at hpos
      exfalso
      rcases Bool.eq_false_or_eq_true (inT (lowsT y) a) with h | h <;> simp [h] at hpos
end Go.Proofs.Yteodlmgmmpkpoaa.PS
end
section
namespace Go.Proofs.Yteodlmgmmpkpoaa.PS
open Go.RowKit Go.Proofs.YteodlmgmmpkpoaaW.PrintWords Go.Proofs.YteodlmgmmpkpoaaW.PrintLast Go.Proofs.YteodlmgmmpkpoaaW.PrintMore
set_option linter.unusedVariables false
set_option linter.unusedSimpArgs false
theorem lbef_loop (p q : List Int) (hl : p.length ≤ 1000) (hq : q.length = p.length) : ∀ (k i : Nat), i ≤ p.length → 2 * (p.length - i) + 2 ≤ k → swashplatelaw01_before.l0 k p q i = some (befB (p.drop i) (q.drop i))
  | 0, i, _, h => absurd h (by omega)
  | 1, i, _, h => absurd h (by omega)
  | k + 2, i, hi, hk => by
    simp only [swashplatelaw01_before.l0]
    by_cases hlt : i < p.length
    · have e1 : rd p (i : Int) = p.getD i 0 := by rw [rd_nat]; rfl
      have e2 : rd q (i : Int) = q.getD i 0 := by rw [rd_nat]; rfl
      have ih := lbef_loop p q hl hq k (i + 1) (by omega)
      rw [if_pos (by omega), decide_eq_true (by omega)]
      simp only [swashplatelaw01_before.j1]
      rw [if_pos trivial, if_pos (by omega), if_pos (by omega), if_pos (by omega), e1, e2, drop_stepG (0 : Int) p i hlt, drop_stepG (0 : Int) q i (by omega)]
      simp only [befB]
      by_cases h1 : p.getD i 0 = q.getD i 0
      · rw [if_pos h1, if_pos h1, step64 i (by omega)]
        exact ih (by omega)
      · rw [if_neg h1, if_neg h1]
    · rw [if_neg (by omega), List.drop_of_length_le (by omega), List.drop_of_length_le (by omega)]
      simp only [swashplatelaw01_before.j1]
      rw [if_neg (by decide)]
      rfl
theorem lbef_total (p q : List Int) (hl : p.length ≤ 1000) (hq : q.length = p.length) (k : Nat) (hk : 3000 ≤ k) : swashplatelaw01_before.f k p q = some (befB p q) := by
  unfold swashplatelaw01_before.f
  have := lbef_loop p q hl hq k 0 (Nat.zero_le _) (by omega)
  rwa [List.drop_zero, List.drop_zero] at this
theorem one_loop (p : List Int) (l : List (List S27)) (hl : l.length ≤ 1000) (h : ∀ b ∈ l, b.length ≤ 100 ∧ p.length = b.length) : ∀ (k i : Nat), i ≤ l.length → (l.length - i) + 200 ≤ k → swashplatelaw01_inOne.l0 k p l i = some ((l.drop i).any (inT p))
  | 0, i, _, h => absurd h (by omega)
  | k + 1, i, hi, hk => by
    simp only [swashplatelaw01_inOne.l0]
    by_cases hlt : i < l.length
    · have hb := h _ (getD_mem l [] i hlt)
      rw [if_pos (by omega), if_pos (by omega), rdL2_nat, in_total p _ (by omega) hb.2 k (by omega), Option.bind_some, drop_stepG [] l i hlt, List.any_cons]
      rcases Bool.eq_false_or_eq_true (inT p (l.getD i [])) with hc | hc
      · rw [hc, if_pos rfl, Bool.true_or]
      · rw [hc, if_neg (by decide), step64 i (by omega), Bool.false_or]
        exact one_loop p l hl h k (i + 1) (by omega) (by omega)
    · rw [if_neg (by omega), List.drop_of_length_le (by omega)]
      rfl
theorem one_total (p : List Int) (l : List (List S27)) (hl : l.length ≤ 1000) (h : ∀ b ∈ l, b.length ≤ 100 ∧ p.length = b.length) (k : Nat) (hk : 2000 ≤ k) : swashplatelaw01_inOne.f k p l = some (l.any (inT p)) := by
  unfold swashplatelaw01_inOne.f
  have := one_loop p l hl h k 0 (Nat.zero_le _) (by omega)
  rwa [List.drop_zero] at this
theorem covP_ok (a : List S27) (l : List (List S27)) (ha : boxB a = true) (h8 : l.length ≤ 8) (hl : ∀ b ∈ l, boxB b = true ∧ b.length = a.length) : spans_CoversP.f a l = some (firstT ((leftT a l).map lowsT), (leftT a l).isEmpty, 0) := by
  unfold spans_CoversP.f
  rw [if_neg (by omega), if_neg (by omega), if_pos (listE_zero (n := a.length) (fun x hx => by
    rcases List.mem_cons.1 hx with rfl | hx
    · exact ⟨ha, rfl⟩
    · exact hl x hx))]
theorem cntP_ok (l : List (List S27)) (n : Nat) (h8 : l.length ≤ 8) (hl : ∀ b ∈ l, boxB b = true ∧ b.length = n) : spans_CountP.f l = some (countT [] l 0, 0) := by
  unfold spans_CountP.f
  rw [if_neg (by omega), if_neg (by omega), if_pos (listE_zero hl)]
theorem cov_j3 (a : List S27) (l : List (List S27)) (p : List Int) (ha : boxB a = true) (h6 : l.length ≤ 6) (hl : ∀ b ∈ l, boxB b = true ∧ b.length = a.length) (hp : p.length = a.length) (F : CovF a l p) (k : Nat) (hk : 5000 ≤ k) :
    swashplatelaw01_SpansCovered.j3 k a l (leftT a l).isEmpty false = some true := by
  obtain ⟨k, rfl⟩ : ∃ m, k = m + 1 := ⟨k - 1, by omega⟩
  have h3 := boxB_size ha
  have hlm : ∀ b ∈ l ++ [a], boxB b = true ∧ b.length = a.length := fun b hb => by
    rcases List.mem_append.1 hb with hb | hb
    · exact hl b hb
    · rw [List.mem_singleton.1 hb]; exact ⟨ha, rfl⟩
  have hml : (l ++ [a]).length ≤ 8 := by rw [List.length_append, List.length_singleton]; omega
  have hok := leftT_ok (a := a) (l := l) ha rfl hl
  have hs := count_snoc a l [] 0
  rw [List.nil_append] at hs
  have hle := count_le a.length l hl
  have hge := sat_ge (leftT a l) (fun x hx => boxB_ok (hok.1 x hx).1) (countT [] l 0) hle
  simp only [swashplatelaw01_SpansCovered.j3]
  rw [if_neg (by decide), copyB_total l (by omega) (fun x hx => by have := (hl x hx).2; omega) k (by omega), Option.bind_some, box_total a (by omega), Option.bind_some, if_pos (by omega), Option.bind_some, Option.bind_some, covP_ok a (l ++ [a]) ha hml hlm, Option.bind_some, Option.bind_some, cntP_ok l a.length (by omega) hl, Option.bind_some, cntP_ok (l ++ [a]) a.length hml hlm, Option.bind_some]
  dsimp only
  rw [if_pos (rfl : (0 : Int) = 0), F.all, if_pos (show ([] : List (List S27)).isEmpty = true from rfl), if_pos (rfl : (0 : Int) = 0), if_pos (rfl : (0 : Int) = 0), hs]
  by_cases hm : countT [] l 0 ≥ 1000000000000000000
  · rw [if_pos hm, if_pos hge.1, works_at _ (by omega)]; rfl
  · rw [if_neg hm]
    have hq : ((satT ((leftT a l).map sizeT) (countT [] l 0) == countT [] l 0) == (leftT a l).isEmpty) = true := by
      cases hL : leftT a l with
      | nil => simp [satT]
      | cons x L =>
        have hgt := sat_gt (leftT a l) (fun x hx => boxB_ok (hok.1 x hx).1) (by rw [hL]; simp) (countT [] l 0) (by omega)
        rw [hL] at hgt
        rw [show (satT ((x :: L).map sizeT) (countT [] l 0) == countT [] l 0) = false from beq_eq_false_iff_ne.2 (by omega)]
        rfl
    rw [if_pos hq, if_pos hge.1, works_at _ (by omega)]; rfl
theorem cov_j2 (a : List S27) (l : List (List S27)) (p : List Int) (ha : boxB a = true) (h6 : l.length ≤ 6) (hl : ∀ b ∈ l, boxB b = true ∧ b.length = a.length) (hp : p.length = a.length) (F : CovF a l p) (k : Nat) (hk : 6000 ≤ k) :
    swashplatelaw01_SpansCovered.j2 k a l p (firstT ((leftT a l).map lowsT)) (leftT a l).isEmpty false = some true := by
  obtain ⟨k, rfl⟩ : ∃ m, k = m + 1 := ⟨k - 1, by omega⟩
  have h3 := boxB_size ha
  have hj := cov_j3 a l p ha h6 hl hp F k (by omega)
  simp only [swashplatelaw01_SpansCovered.j2]
  rw [if_neg (by decide), in_total p a (by omega) hp k (by omega), Option.bind_some]
  by_cases h1 : inT p a = true
  · rw [if_pos h1, one_total p l (by omega) (fun b hb => by have := (hl b hb).2; omega) k (by omega), Option.bind_some]
    rcases Bool.eq_false_or_eq_true (l.any (inT p)) with h2 | h2
    · rw [h2, if_pos rfl, hj]
    · obtain ⟨hne, hb⟩ := F.outer h1 h2
      have hpl := (F.point hne).1
      have hie : (leftT a l).isEmpty = false := by
        cases hL : leftT a l with
        | nil => exact absurd hL hne
        | cons x L => rfl
      rw [hie] at hj
      rw [h2, if_neg (by decide), hie, if_neg (by decide), lbef_total p _ (by omega) (by omega) k (by omega), Option.bind_some, hb, hj]
  · rw [if_neg h1, hj]
theorem cov_l0 (a : List S27) (l : List (List S27)) (p : List Int) (ha : boxB a = true) (h6 : l.length ≤ 6) (hp : p.length = a.length) : ∀ (k i : Nat), i ≤ l.length → (l.length - i) + 7000 ≤ k → (∀ b ∈ l.take i, boxB b = true ∧ b.length = a.length) → swashplatelaw01_SpansCovered.l0 k a l p i = some true
  | 0, i, _, h, _ => absurd h (by omega)
  | k + 1, i, hi, hk, hd => by
    have h3 := boxB_size ha
    simp only [swashplatelaw01_SpansCovered.l0]
    by_cases hlt : i < l.length
    · rw [if_pos (by omega), if_pos (by omega), rdL2_nat, rcheck_total _ _ (by omega), Option.bind_some]
      rcases Bool.eq_false_or_eq_true (boxB (l.getD i [])) with hb | hb
      · rw [hb, if_pos rfl, if_pos rfl]
        by_cases hc : (l.getD i []).length = a.length
        · rw [if_pos (by omega), step64 i (by omega)]
          refine cov_l0 a l p ha h6 hp k (i + 1) (by omega) (by omega) (fun b hm => ?_)
          rw [List.take_succ_eq_append_getElem hlt] at hm
          rcases List.mem_append.1 hm with hm | hm
          · exact hd b hm
          · have : b = l.getD i [] := by
              rw [List.mem_singleton.1 hm]
              simp [List.getD_eq_getElem?_getD, List.getElem?_eq_getElem hlt]
            rw [this]
            exact ⟨hb, hc⟩
        · rw [if_neg (by omega), works_at _ (by omega)]; rfl
      · rw [hb, if_neg (show ¬ (false = true) by decide), if_neg (show ¬ ((10 : Int) = 0) by decide), works_at _ (by omega)]; rfl
    · obtain rfl : i = l.length := by omega
      rw [List.take_length] at hd
      have F := cov_facts a l p ha hd hp
      have hj := cov_j2 a l p ha h6 hd hp F k (by omega)
      rw [if_neg (by omega), box_total a (by omega), Option.bind_some, copyB_total l (by omega) (fun x hx => by have := (hd x hx).2; omega) k (by omega), Option.bind_some, covP_ok a l ha (by omega) hd, Option.bind_some]
      dsimp only
      rw [if_pos (rfl : (0 : Int) = 0)]
      by_cases hne : leftT a l = []
      · have hie : (leftT a l).isEmpty = true := by rw [hne]; rfl
        rw [hie] at hj
        rw [hie, if_pos rfl, hj]
      · have hie : (leftT a l).isEmpty = false := by
          cases hL : leftT a l with
          | nil => exact absurd hL hne
          | cons x L => rfl
        obtain ⟨f1, f2, f3⟩ := F.point hne
        rw [hie] at hj
        rw [hie, if_neg (by decide), if_pos (by omega), in_total _ a (by omega) f1 k (by omega), Option.bind_some, f2, if_pos rfl, one_total _ l (by omega) (fun b hb => by have := (hd b hb).2; omega) k (by omega), Option.bind_some, f3, hj]
theorem covered_true (a : List S27) (l : List (List S27)) (p : List Int) : swashplatelaw01_SpansCovered.f 20000 a l p = some true := by
  have hj : swashplatelaw01_SpansCovered.j0 20000 a l p true = some true := by
    simp only [swashplatelaw01_SpansCovered.j0]
    rw [if_pos trivial, works_at _ (by omega)]; rfl
  unfold swashplatelaw01_SpansCovered.f
  rw [rcheck_total _ _ (by omega), Option.bind_some]
  rcases Bool.eq_false_or_eq_true (boxB a) with ha | ha
  · rw [ha, if_pos rfl, if_pos rfl]
    by_cases h6 : l.length > 6
    · rw [if_pos (by omega), hj]
    · rw [if_neg (by omega)]
      by_cases hp : p.length = a.length
      · rw [show ((p.length : Int) != (a.length : Int)) = false by simp [hp]]
        simp only [swashplatelaw01_SpansCovered.j0]
        rw [if_neg (by decide)]
        exact cov_l0 a l p ha (by omega) hp 19999 0 (Nat.zero_le _) (by omega) (by simp)
      · rw [show ((p.length : Int) != (a.length : Int)) = true by simp; omega, hj]
  · rw [ha, if_neg (show ¬ (false = true) by decide), if_neg (show ¬ ((10 : Int) = 0) by decide), hj]
end Go.Proofs.Yteodlmgmmpkpoaa.PS
end
section
namespace Go.Proofs.Yteodlmgmmpkpoaa.PS
open Go.RowKit Go.Deep Go.ChangeShapes Go.WideShapes Go.ChangeAt Go.Proofs.YteodlmgmmpkpoaaW.PrintWords
set_option linter.unusedVariables false
set_option maxRecDepth 100000 in
theorem liftedCovered (os : Os) (started : os.Started) (H : Type) (enc : TypeId × Value → H) :
    ReturnsInHanded {} Try.checked os 18 .any (Rows.spansCoveredSpec.pre6 enc Try.prog Try.f18 Rows.spansCoveredRow.domain false) (Rows.spansCoveredSpec.post enc Try.prog Try.f18 false true false false) := by
  refine returnsInHanded_of_change (C := Try.checked) ownNone started (by kernel_rfl) Try.func18
    (ChangeSpec.witness6 (enc := enc) (C := Try.checked) false ⟨#[], #[.slice none 0 0, .slice none 0 0, .slice none 0 0], []⟩ 8 (by kernel_rfl) (by kernel_rfl) (by kernel_rfl) (by kernel_rfl)) ?_
  intro W base args ds gs before hval0 hW hcnd _
  have hval : ∀ (j : Nat) t v, Try.f18.params[j]? = some t → args[j]? = some v → Value.okWide Try.prog W .any base t v := hval0
  have hW' := hW
  obtain ⟨p, q, hA0, hV, rfl, hfz, hnd⟩ := hW
  have hA : DataW.TrodAll enc Try.prog W 0 (fun _ => true) true Try.f18.params.toList args.toList ds p := hA0
  rw [Try.params18] at hA hval
  obtain ⟨v0, vs0, d0, ds0, p0, q0, hargs, rfl, rfl, h0, r0⟩ := trodAll_cons hA
  obtain ⟨v1, vs1, d1, ds1, p1, q1, rfl, rfl, rfl, h1, r1⟩ := trodAll_cons r0
  obtain ⟨v2, vs2, d2, ds2, p2, q2, rfl, rfl, rfl, h2, r2⟩ := trodAll_cons r1
  obtain ⟨rfl, rfl, rfl⟩ := trodAll_nil r2
  obtain rfl : args = #[v0, v1, v2] := by cases args; simp_all
  obtain ⟨rfl, rfl⟩ := trodVars_none hV
  have k0 := h0
  have lt0 : ∀ x ∈ p0, x.block < W.heap.size := by obtain ⟨m, hm⟩ := k0; exact DataW.trod_lt m _ _ _ hm
  have k1 := h1
  have lt1 : ∀ x ∈ p1, x.block < W.heap.size := by obtain ⟨m, hm⟩ := k1; exact DataW.trod_lt m _ _ _ hm
  have k2 := h2
  have lt2 : ∀ x ∈ p2, x.block < W.heap.size := by obtain ⟨m, hm⟩ := k2; exact DataW.trod_lt m _ _ _ hm
  obtain ⟨A0, c0, b0, rfl, o01, o02, _, _⟩ := arg38 (hval 0 38 v0 rfl rfl) h0
  obtain ⟨A1, c1, b1, rfl, o11, o12, _, _⟩ := arg95 (hval 1 95 v1 rfl rfl) h1
  obtain ⟨A2, c2, b2, rfl, o21, o22, _, _⟩ := arg22 (hval 2 22 v2 rfl rfl) h2
  clear hA0 hval0
  refine (swashplatelaw01_SpansCovered.calls 20000 A0 c0 b0 A1 c1 b1 A2 c2 b2 true W o02 o01 o12 o11 o22 o21 (covered_true b0 b1 b2) ⟨rfl⟩).mono fun e W' ⟨he, bel⟩ => ?_
  subst he
  exact ⟨_, rfl, _, _, _, [], _, [], hW', trodAll_mk1 (shut_bool Try.underlying4 _), (trodAll_cons_mk (Below.trod laidOut (by kernel_rfl) (of_decide_eq_true (by kernel_rfl)) k0 bel lt0) (trodAll_cons_mk (Below.trod laidOut (by kernel_rfl) (of_decide_eq_true (by kernel_rfl)) k1 bel lt1) (trodAll_cons_mk (Below.trod laidOut (by kernel_rfl) (of_decide_eq_true (by kernel_rfl)) k2 bel lt2) trodAll_mk0))), rfl, bel.frame _, fun h => by cases h⟩
theorem factsCovered : joinedFacts Try.prog 18 Try.f18 Rows.spansCoveredSpec Rows.spansCoveredRow = true := by
  have fk : (Rows.spansCoveredRow.plainKeys == Try.prog.plainKeys) = true := factKeys
  have fl : (Rows.spansCoveredRow.lifted == Try.prog.liftsFinal) = true := factLifted
  have fm : (Try.prog.make == some Rows.spansCoveredRow.make) = true := factMake
  unfold joinedFacts
  repeat' (with_reducible refine Bool.and_eq_true_iff.2 ⟨?_, ?_⟩)
  all_goals first | (with_reducible exact fk) | (with_reducible exact factHeard) | (with_reducible exact factEnter) | (with_reducible exact fl) | (with_reducible exact fm) | kernel_rfl
theorem overCovered : Rows.spansCoveredRow.holds Try.pinned (OpenSpec.ofChange Rows.spansCoveredSpec) :=
  OpenClaim.holds_of_wide 18 Try.f18 rfl rfl rfl rfl rfl rfl rfl ⟨rfl, rfl, rfl, rfl, rfl⟩ rfl rfl rfl rfl rfl (by kernel_rfl) Try.func18 factsCovered
    (of_decide_eq_true (by kernel_rfl)) (by unfold Func.isWrapper; first | (rw [if_pos (by decide +kernel)]; kernel_rfl) | (rw [if_neg (by decide +kernel)]; exact ⟨rfl, rfl⟩))
    (fun os started H enc _ => liftedCovered os started H enc)
theorem coveredProved : Rows.SpansCoveredSaid := overCovered
#print axioms coveredProved
end Go.Proofs.Yteodlmgmmpkpoaa.PS
end
