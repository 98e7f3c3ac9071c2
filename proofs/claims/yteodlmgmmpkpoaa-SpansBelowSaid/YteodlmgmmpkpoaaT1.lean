-- Printed by a program of this session out of the translation (hybrid print) and out of hand proofs. Not trusted: Lean checks it.
import Derived.Below
import Derived.Deep.Draws
import Derived.Deep.AppendLies
import Derived.Maps.AppendAt
import Derived.OwnWalk
import Derived.Laws.BytesArg
import Derived.Laws.MakeOwn
import Derived.Laws.OwnMore
import Derived.Deep.OwnRows
import Derived.Tactics
import Derived.Lib.ConvBytes
import Derived.Laws.Slices
import Derived.WalkKit
import Derived.KernelRfl
import Derived.RowKit3
import Derived.Deep.LoopGhost
import Derived.Deep.QuietTactic
import Derived.BigQuiet
import Derived.WideLaws
import Derived.Deep.DeepCutAuto
import Derived.Deep.CutBlock
import Derived.Deep.RegionHeld3
import Derived.Laws.Rows
import Derived.Lib.AppendStr
import Derived.ArgAppend
import Derived.Laws.IdiomCopy
import Derived.RowKit
import Derived.OrdersHeld
import Derived.Laws.BitsLemmas
import Derived.Test.YteodlmgmmpkpoaaProg
import Derived.StillTailTactics
import Derived.Test.YteodlmgmmpkpoaaT0
section
namespace Go.Proofs.Yteodlmgmmpkpoaa.PS
open Go.RowKit Go.Proofs.YteodlmgmmpkpoaaW.PrintWords Go.Proofs.YteodlmgmmpkpoaaW.PrintLast Go.Proofs.YteodlmgmmpkpoaaW.PrintMore
attribute [local go_sem] max2_int min2_int max_two min_two max_three min_three max_four min_four   -- for this text's walks alone
set_option linter.unusedVariables false
set_option linter.unusedSimpArgs false
theorem info22 : (Try.prog.info? 22).map (fun i => (i.zero, i.size, i.bytes)) = some (some (.slice none 0 0), 1, 24) := by kernel_rfl
end Go.Proofs.Yteodlmgmmpkpoaa.PS
end
section
namespace Go.Proofs.Yteodlmgmmpkpoaa.PS
set_option linter.unusedVariables false
def partOf (l : List Int) (x : Int) : Nat := ((l.drop 1).dropLast).countP (fun y => decide (y ≤ x))
def ptRef (X Y : List Int) (V : List (List Int)) (x y : Int) : Pt := ⟨x, y, numAt X Y V (partOf X x) (partOf Y y) x y, denAt X Y (partOf X x) (partOf Y y)⟩
def pointsE (X Y : List Int) (V : List (List Int)) (a0 a1 b0 b1 : Int) : Int := if tableB X Y V then (if okS a0 a1 && okS b0 b1 then (if onB X a0 a1 && onB Y b0 b1 then 0 else 1) else 10) else 11
def swashplateref01_Value.f (X Y : List Int) (V : List (List Int)) (x y : Int) : Option (Int × Int) :=
  if (tableB X Y V && (onB X x x && onB Y y y)) = true then some ((ptRef X Y V x y).n, (ptRef X Y V x y).d) else none
end Go.Proofs.Yteodlmgmmpkpoaa.PS
end
section
namespace Go.Proofs.Yteodlmgmmpkpoaa.PS
open Go.RowKit Go.Proofs.YteodlmgmmpkpoaaW.PrintWords Go.Proofs.YteodlmgmmpkpoaaW.PrintLast Go.Proofs.YteodlmgmmpkpoaaW.PrintMore
attribute [local go_sem] max2_int min2_int max_two min_two max_three min_three max_four min_four   -- for this text's walks alone
set_option linter.unusedVariables false
set_option linter.unusedSimpArgs false
def swashplateref01_From.f (a0 : Int) (a1 : Int) (a2 : Int) : Option (Bool) := if a0 ≥ a1 then (some (decide (a0 ≤ a2))) else (some false)
set_option maxHeartbeats 8000000 in
set_option maxRecDepth 100000 in
theorem swashplateref01_From.calls (a0 : Int) (a1 : Int) (a2 : Int) (r : Bool) (w : World) (h : swashplateref01_From.f a0 a1 a2 = some r) :
  Calls Try.prog 37 #[.int .i64 a0, .int .i64 a1, .int .i64 a2] w fun e w' => e = .returned (.bool r) ∧ Drawn0 w w' := by
 have H : (if a0 ≥ a1 then (some (decide (a0 ≤ a2))) else (some false)) = some r := h
 clear h
 by_cases c4 : a0 ≥ a1
 ·
  rw [if_pos c4] at H
  have c4b0 : decide (a1 ≤ a0) = true := decide_eq_true c4
  clear c4
  obtain rfl := Option.some.inj H
  go_enter Try.func37, Try.ntmps37
  go_wp2
  go_ret
  exact ⟨by first | rfl | (simp; done) | (simp [*]; done), by repeat (first | exact Drawn0.refl _ | apply Drawn0.step)⟩
 ·
  rw [if_neg c4] at H
  have c4b0 : decide (a1 ≤ a0) = false := decide_eq_false c4
  clear c4
  obtain rfl := Option.some.inj H
  go_enter Try.func37, Try.ntmps37
  go_wp2
  go_ret
  exact ⟨by first | rfl | (simp; done) | (simp [*]; done), by repeat (first | exact Drawn0.refl _ | apply Drawn0.step)⟩
end Go.Proofs.Yteodlmgmmpkpoaa.PS
end
section
namespace Go.Proofs.Yteodlmgmmpkpoaa.PS
open Go.RowKit Go.Proofs.YteodlmgmmpkpoaaW.PrintWords Go.Proofs.YteodlmgmmpkpoaaW.PrintLast Go.Proofs.YteodlmgmmpkpoaaW.PrintMore
attribute [local go_sem] max2_int min2_int max_two min_two max_three min_three max_four min_four   -- for this text's walks alone
set_option linter.unusedVariables false
set_option linter.unusedSimpArgs false
def swashplateref01_knots.l0 : Nat → List Int → Int → Option (Bool)
 | 0, _, _ => none
 | k + 1, x0, x3 => if x3 < (x0.length : Int) then (if 0 ≤ x3 then ((swashplateref01_From.f (rd x0 x3) (-1000000) 1000000).bind fun t186 => (if t186 = true then (if x3 > 0 then (if 0 ≤ (wrap64 (x3 - 1)) then (if (wrap64 (x3 - 1)) < (x0.length : Int) then ((swashplateref01_From.f (wrap64 ((rd x0 x3) - (rd x0 (wrap64 (x3 - 1))))) 1 10000).bind fun t189 => (if t189 = true then (swashplateref01_knots.l0 k x0 (wrap64 (x3 + 1))) else (some false))) else (none)) else (none)) else (swashplateref01_knots.l0 k x0 (wrap64 (x3 + 1)))) else (some false))) else (none)) else (some true)
def swashplateref01_knots.f (k : Nat) (l0 : List Int) : Option (Bool) := (swashplateref01_From.f (l0.length : Int) 2 12).bind fun t184 => (if t184 = true then (swashplateref01_knots.l0 k l0 0) else (some false))
set_option maxHeartbeats 8000000 in
set_option maxRecDepth 100000 in
theorem swashplateref01_knots.calls (k : Nat) (A0 : Option Addr) (c0 : Nat) (l0 : List Int) (r : Bool) (w : World) (hr0 : Kd.C (Kd.int .i64) w A0 l0.length l0) (hc0 : l0.length ≤ c0) (h : swashplateref01_knots.f k l0 = some r) :
  Calls Try.prog 86 #[.slice A0 l0.length c0] w fun e w' => e = .returned (.bool r) ∧ Drawn0 w w' := by
 have HR0 := Aside0.mk hr0
 have HC0 := Aside0.mk hc0
 clear hr0 hc0
 have H : ((swashplateref01_From.f (l0.length : Int) 2 12).bind fun t184 => (if t184 = true then (swashplateref01_knots.l0 k l0 0) else (some false))) = some r := h
 clear h
 replace H := Option.bind_eq_some_iff.mp H
 obtain ⟨t184, A20, H⟩ := H
 replace H : (if t184 = true then (swashplateref01_knots.l0 k l0 0) else (some false)) = some r := H
 have A2 := Aside0.mk A20
 clear A20
 by_cases c3 : t184 = true
 ·
  subst c3
  have H1 : (swashplateref01_knots.l0 k l0 0) = some r := by rw [if_pos rfl] at H; exact H
  clear H
  have H := H1
  clear H1
  have H' := Aside0.mk H
  clear H
  go_enter Try.func86, Try.ntmps86
  go_wp2_with (first | (go_at_call 37; (with_reducible refine (swashplateref01_From.calls (l0.length : Int) 2 12 true _ A2.out).mono ?_); rintro e w' ⟨rfl, ⟨nd, rfl⟩⟩; (try first | exact ⟨rfl, _, World.drewN_drewN _ _ _⟩ | exact ⟨rfl, _, Eq.trans (World.drewN_drewN _ _ _) (congrArg (World.drewN _) (Nat.add_assoc _ _ _))⟩)))
  go_loopg [3] k (fun kq v3 w' => ∃ (x3_1 : Int), v3 = .int .i64 x3_1 ∧ Aside0 (swashplateref01_knots.l0 kq l0 x3_1 = some r) ∧ Aside0 (kq ≤ k) ∧ Drawn0 w w')
  case atStart => exact ⟨(0), (by first | rfl | (simp; done) | (simp [*]; done)), H', ⟨Nat.le_refl _⟩, by repeat (first | exact Drawn0.refl _ | apply Drawn0.step)⟩
  case round =>
   clear H'
   try clear p2
   try clear c3
   obtain ⟨x3_1, rfl, HA, HK1, ⟨m1, rfl⟩⟩ := hrel
   cases gk with
   | zero => exact absurd HA.out (by simp [swashplateref01_knots.l0])
   | succ k1 =>
    have H := HA.out
    clear HA
    simp only [swashplateref01_knots.l0] at H
    by_cases c4 : x3_1 < (l0.length : Int)
    ·
     rw [if_pos c4] at H
     have c4b0 : decide (x3_1 < (l0.length : Int)) = true := decide_eq_true c4
     clear c4
     by_cases c5 : 0 ≤ x3_1
     ·
      rw [if_pos c5] at H
      have c5b0 : decide (0 ≤ x3_1) = true := decide_eq_true c5
      clear c5
      replace H := Option.bind_eq_some_iff.mp H
      obtain ⟨t186, A60, H⟩ := H
      replace H : (if t186 = true then (if x3_1 > 0 then (if 0 ≤ (wrap64 (x3_1 - 1)) then (if (wrap64 (x3_1 - 1)) < (l0.length : Int) then ((swashplateref01_From.f (wrap64 ((rd l0 x3_1) - (rd l0 (wrap64 (x3_1 - 1))))) 1 10000).bind fun t189 => (if t189 = true then (swashplateref01_knots.l0 k1 l0 (wrap64 (x3_1 + 1))) else (some false))) else (none)) else (none)) else (swashplateref01_knots.l0 k1 l0 (wrap64 (x3_1 + 1)))) else (some false)) = some r := H
      have A6 := Aside0.mk A60
      clear A60
      by_cases c7 : t186 = true
      ·
       subst c7
       have H1 : (if x3_1 > 0 then (if 0 ≤ (wrap64 (x3_1 - 1)) then (if (wrap64 (x3_1 - 1)) < (l0.length : Int) then ((swashplateref01_From.f (wrap64 ((rd l0 x3_1) - (rd l0 (wrap64 (x3_1 - 1))))) 1 10000).bind fun t189 => (if t189 = true then (swashplateref01_knots.l0 k1 l0 (wrap64 (x3_1 + 1))) else (some false))) else (none)) else (none)) else (swashplateref01_knots.l0 k1 l0 (wrap64 (x3_1 + 1)))) = some r := by rw [if_pos rfl] at H; exact H
       clear H
       have H := H1
       clear H1
       by_cases c8 : x3_1 > 0
       ·
        rw [if_pos c8] at H
        have c8b0 : decide (0 < x3_1) = true := decide_eq_true c8
        clear c8
        obtain ⟨ji9, hji9⟩ : ∃ j_ : Int, (wrap64 (x3_1 - 1)) = j_ := ⟨_, rfl⟩
        replace H : (if 0 ≤ (ji9) then (if (ji9) < (l0.length : Int) then ((swashplateref01_From.f (wrap64 ((rd l0 x3_1) - (rd l0 (ji9)))) 1 10000).bind fun t189 => (if t189 = true then (swashplateref01_knots.l0 k1 l0 (wrap64 (x3_1 + 1))) else (some false))) else (none)) else (none)) = some r := by first | (rw [hji9] at H; exact H) | (simp only [hji9] at H ⊢; exact H)
        (try rw [hji9] at A6)
        have hji9w : (IntKind.i64.wrap (x3_1 - 1)) = ji9 := (i64_w _).trans hji9
        by_cases c10 : 0 ≤ (ji9)
        ·
         rw [if_pos c10] at H
         have c10b0 : decide (0 ≤ (ji9)) = true := decide_eq_true c10
         clear c10
         by_cases c11 : (ji9) < (l0.length : Int)
         ·
          rw [if_pos c11] at H
          have c11b0 : decide ((ji9) < (l0.length : Int)) = true := decide_eq_true c11
          clear c11
          replace H := Option.bind_eq_some_iff.mp H
          obtain ⟨t189, A120, H⟩ := H
          replace H : (if t189 = true then (swashplateref01_knots.l0 k1 l0 (wrap64 (x3_1 + 1))) else (some false)) = some r := H
          have A12 := Aside0.mk A120
          clear A120
          by_cases c13 : t189 = true
          ·
           subst c13
           have H1 : (swashplateref01_knots.l0 k1 l0 (wrap64 (x3_1 + 1))) = some r := by rw [if_pos rfl] at H; exact H
           clear H
           have H := H1
           clear H1
           have H' := Aside0.mk H
           clear H
           have p185 : 0 ≤ (x3_1 : Int) := of_decide_eq_true (by first | (with_reducible assumption) | assumption)
           have q185 : x3_1 < (l0.length : Int) := of_decide_eq_true (by first | (with_reducible assumption) | assumption)
           obtain ⟨ad185, e185, hx185_0⟩ := Kd.at_int HR0.out x3_1 p185 q185
           cases e185
           replace p185 := eq_true p185
           replace q185 := eq_true q185
           go_wp2_with (first | (go_at_call 37; (with_reducible refine (swashplateref01_From.calls (rd l0 x3_1) (-1000000) 1000000 true _ A6.out).mono ?_); rintro e w' ⟨rfl, ⟨nd, rfl⟩⟩; (try first | exact ⟨rfl, _, World.drewN_drewN _ _ _⟩ | exact ⟨rfl, _, Eq.trans (World.drewN_drewN _ _ _) (congrArg (World.drewN _) (Nat.add_assoc _ _ _))⟩); have p187 : 0 ≤ (x3_1 : Int) := of_decide_eq_true (by first | (with_reducible assumption) | assumption); have q187 : x3_1 < (l0.length : Int) := of_decide_eq_true (by first | (with_reducible assumption) | assumption); obtain ⟨ad187, e187, hx187_0⟩ := Kd.at_int HR0.out x3_1 p187 q187; obtain rfl : ad185 = ad187 := (by injection e187); replace p187 := eq_true p187; replace q187 := eq_true q187; have p188 : 0 ≤ ((ji9) : Int) := of_decide_eq_true (by first | (with_reducible assumption) | assumption); have q188 : (ji9) < (l0.length : Int) := of_decide_eq_true (by first | (with_reducible assumption) | assumption); obtain ⟨ad188, e188, hx188_0⟩ := Kd.at_int HR0.out (ji9) p188 q188; obtain rfl : ad185 = ad188 := (by injection e188); replace p188 := eq_true p188; replace q188 := eq_true q188) | (go_at_call 37; (with_reducible refine (swashplateref01_From.calls (wrap64 ((rd l0 x3_1) - (rd l0 (ji9)))) 1 10000 true _ A12.out).mono ?_); rintro e w' ⟨rfl, ⟨nd, rfl⟩⟩; (try first | exact ⟨rfl, _, World.drewN_drewN _ _ _⟩ | exact ⟨rfl, _, Eq.trans (World.drewN_drewN _ _ _) (congrArg (World.drewN _) (Nat.add_assoc _ _ _))⟩)))
           try have hqw1_0 := i64_w ((rd l0 x3_1) - (rd l0 (ji9)))
           repeat (go_quiet (first | (go_at_call 37; (with_reducible refine (swashplateref01_From.calls (rd l0 x3_1) (-1000000) 1000000 true _ A6.out).mono ?_); rintro e w' ⟨rfl, ⟨nd, rfl⟩⟩; (try first | exact ⟨rfl, _, World.drewN_drewN _ _ _⟩ | exact ⟨rfl, _, Eq.trans (World.drewN_drewN _ _ _) (congrArg (World.drewN _) (Nat.add_assoc _ _ _))⟩); have p187 : 0 ≤ (x3_1 : Int) := of_decide_eq_true (by first | (with_reducible assumption) | assumption); have q187 : x3_1 < (l0.length : Int) := of_decide_eq_true (by first | (with_reducible assumption) | assumption); obtain ⟨ad187, e187, hx187_0⟩ := Kd.at_int HR0.out x3_1 p187 q187; obtain rfl : ad185 = ad187 := (by injection e187); replace p187 := eq_true p187; replace q187 := eq_true q187; have p188 : 0 ≤ ((ji9) : Int) := of_decide_eq_true (by first | (with_reducible assumption) | assumption); have q188 : (ji9) < (l0.length : Int) := of_decide_eq_true (by first | (with_reducible assumption) | assumption); obtain ⟨ad188, e188, hx188_0⟩ := Kd.at_int HR0.out (ji9) p188 q188; obtain rfl : ad185 = ad188 := (by injection e188); replace p188 := eq_true p188; replace q188 := eq_true q188) | (go_at_call 37; (with_reducible refine (swashplateref01_From.calls (wrap64 ((rd l0 x3_1) - (rd l0 (ji9)))) 1 10000 true _ A12.out).mono ?_); rintro e w' ⟨rfl, ⟨nd, rfl⟩⟩; (try first | exact ⟨rfl, _, World.drewN_drewN _ _ _⟩ | exact ⟨rfl, _, Eq.trans (World.drewN_drewN _ _ _) (congrArg (World.drewN _) (Nat.add_assoc _ _ _))⟩))); try go_wp2_with (first | (go_at_call 37; (with_reducible refine (swashplateref01_From.calls (rd l0 x3_1) (-1000000) 1000000 true _ A6.out).mono ?_); rintro e w' ⟨rfl, ⟨nd, rfl⟩⟩; (try first | exact ⟨rfl, _, World.drewN_drewN _ _ _⟩ | exact ⟨rfl, _, Eq.trans (World.drewN_drewN _ _ _) (congrArg (World.drewN _) (Nat.add_assoc _ _ _))⟩); have p187 : 0 ≤ (x3_1 : Int) := of_decide_eq_true (by first | (with_reducible assumption) | assumption); have q187 : x3_1 < (l0.length : Int) := of_decide_eq_true (by first | (with_reducible assumption) | assumption); obtain ⟨ad187, e187, hx187_0⟩ := Kd.at_int HR0.out x3_1 p187 q187; obtain rfl : ad185 = ad187 := (by injection e187); replace p187 := eq_true p187; replace q187 := eq_true q187; have p188 : 0 ≤ ((ji9) : Int) := of_decide_eq_true (by first | (with_reducible assumption) | assumption); have q188 : (ji9) < (l0.length : Int) := of_decide_eq_true (by first | (with_reducible assumption) | assumption); obtain ⟨ad188, e188, hx188_0⟩ := Kd.at_int HR0.out (ji9) p188 q188; obtain rfl : ad185 = ad188 := (by injection e188); replace p188 := eq_true p188; replace q188 := eq_true q188) | (go_at_call 37; (with_reducible refine (swashplateref01_From.calls (wrap64 ((rd l0 x3_1) - (rd l0 (ji9)))) 1 10000 true _ A12.out).mono ?_); rintro e w' ⟨rfl, ⟨nd, rfl⟩⟩; (try first | exact ⟨rfl, _, World.drewN_drewN _ _ _⟩ | exact ⟨rfl, _, Eq.trans (World.drewN_drewN _ _ _) (congrArg (World.drewN _) (Nat.add_assoc _ _ _))⟩))))
           go_roundg k1
           case measure => have := HK1.out; omega
           case rel => exact ⟨(wrap64 (x3_1 + 1)), (by first | rfl | (simp; done) | (simp [*]; done)), H', ⟨by have := HK1.out; omega⟩, by repeat (first | exact Drawn0.refl _ | apply Drawn0.step)⟩
          ·
           replace c13 := Bool.eq_false_iff.mpr c13
           subst c13
           have H1 : (some false) = some r := by rw [if_neg (show ¬ (false = true) by decide)] at H; exact H
           clear H
           have H := H1
           clear H1
           obtain rfl := Option.some.inj H
           have p185 : 0 ≤ (x3_1 : Int) := of_decide_eq_true (by first | (with_reducible assumption) | assumption)
           have q185 : x3_1 < (l0.length : Int) := of_decide_eq_true (by first | (with_reducible assumption) | assumption)
           obtain ⟨ad185, e185, hx185_0⟩ := Kd.at_int HR0.out x3_1 p185 q185
           cases e185
           replace p185 := eq_true p185
           replace q185 := eq_true q185
           go_wp2_with (first | (go_at_call 37; (with_reducible refine (swashplateref01_From.calls (rd l0 x3_1) (-1000000) 1000000 true _ A6.out).mono ?_); rintro e w' ⟨rfl, ⟨nd, rfl⟩⟩; (try first | exact ⟨rfl, _, World.drewN_drewN _ _ _⟩ | exact ⟨rfl, _, Eq.trans (World.drewN_drewN _ _ _) (congrArg (World.drewN _) (Nat.add_assoc _ _ _))⟩); have p187 : 0 ≤ (x3_1 : Int) := of_decide_eq_true (by first | (with_reducible assumption) | assumption); have q187 : x3_1 < (l0.length : Int) := of_decide_eq_true (by first | (with_reducible assumption) | assumption); obtain ⟨ad187, e187, hx187_0⟩ := Kd.at_int HR0.out x3_1 p187 q187; obtain rfl : ad185 = ad187 := (by injection e187); replace p187 := eq_true p187; replace q187 := eq_true q187; have p188 : 0 ≤ ((ji9) : Int) := of_decide_eq_true (by first | (with_reducible assumption) | assumption); have q188 : (ji9) < (l0.length : Int) := of_decide_eq_true (by first | (with_reducible assumption) | assumption); obtain ⟨ad188, e188, hx188_0⟩ := Kd.at_int HR0.out (ji9) p188 q188; obtain rfl : ad185 = ad188 := (by injection e188); replace p188 := eq_true p188; replace q188 := eq_true q188) | (go_at_call 37; (with_reducible refine (swashplateref01_From.calls (wrap64 ((rd l0 x3_1) - (rd l0 (ji9)))) 1 10000 false _ A12.out).mono ?_); rintro e w' ⟨rfl, ⟨nd, rfl⟩⟩; (try first | exact ⟨rfl, _, World.drewN_drewN _ _ _⟩ | exact ⟨rfl, _, Eq.trans (World.drewN_drewN _ _ _) (congrArg (World.drewN _) (Nat.add_assoc _ _ _))⟩)))
           try have hqw2_0 := i64_w ((rd l0 x3_1) - (rd l0 (ji9)))
           repeat (go_quiet (first | (go_at_call 37; (with_reducible refine (swashplateref01_From.calls (rd l0 x3_1) (-1000000) 1000000 true _ A6.out).mono ?_); rintro e w' ⟨rfl, ⟨nd, rfl⟩⟩; (try first | exact ⟨rfl, _, World.drewN_drewN _ _ _⟩ | exact ⟨rfl, _, Eq.trans (World.drewN_drewN _ _ _) (congrArg (World.drewN _) (Nat.add_assoc _ _ _))⟩); have p187 : 0 ≤ (x3_1 : Int) := of_decide_eq_true (by first | (with_reducible assumption) | assumption); have q187 : x3_1 < (l0.length : Int) := of_decide_eq_true (by first | (with_reducible assumption) | assumption); obtain ⟨ad187, e187, hx187_0⟩ := Kd.at_int HR0.out x3_1 p187 q187; obtain rfl : ad185 = ad187 := (by injection e187); replace p187 := eq_true p187; replace q187 := eq_true q187; have p188 : 0 ≤ ((ji9) : Int) := of_decide_eq_true (by first | (with_reducible assumption) | assumption); have q188 : (ji9) < (l0.length : Int) := of_decide_eq_true (by first | (with_reducible assumption) | assumption); obtain ⟨ad188, e188, hx188_0⟩ := Kd.at_int HR0.out (ji9) p188 q188; obtain rfl : ad185 = ad188 := (by injection e188); replace p188 := eq_true p188; replace q188 := eq_true q188) | (go_at_call 37; (with_reducible refine (swashplateref01_From.calls (wrap64 ((rd l0 x3_1) - (rd l0 (ji9)))) 1 10000 false _ A12.out).mono ?_); rintro e w' ⟨rfl, ⟨nd, rfl⟩⟩; (try first | exact ⟨rfl, _, World.drewN_drewN _ _ _⟩ | exact ⟨rfl, _, Eq.trans (World.drewN_drewN _ _ _) (congrArg (World.drewN _) (Nat.add_assoc _ _ _))⟩))); try go_wp2_with (first | (go_at_call 37; (with_reducible refine (swashplateref01_From.calls (rd l0 x3_1) (-1000000) 1000000 true _ A6.out).mono ?_); rintro e w' ⟨rfl, ⟨nd, rfl⟩⟩; (try first | exact ⟨rfl, _, World.drewN_drewN _ _ _⟩ | exact ⟨rfl, _, Eq.trans (World.drewN_drewN _ _ _) (congrArg (World.drewN _) (Nat.add_assoc _ _ _))⟩); have p187 : 0 ≤ (x3_1 : Int) := of_decide_eq_true (by first | (with_reducible assumption) | assumption); have q187 : x3_1 < (l0.length : Int) := of_decide_eq_true (by first | (with_reducible assumption) | assumption); obtain ⟨ad187, e187, hx187_0⟩ := Kd.at_int HR0.out x3_1 p187 q187; obtain rfl : ad185 = ad187 := (by injection e187); replace p187 := eq_true p187; replace q187 := eq_true q187; have p188 : 0 ≤ ((ji9) : Int) := of_decide_eq_true (by first | (with_reducible assumption) | assumption); have q188 : (ji9) < (l0.length : Int) := of_decide_eq_true (by first | (with_reducible assumption) | assumption); obtain ⟨ad188, e188, hx188_0⟩ := Kd.at_int HR0.out (ji9) p188 q188; obtain rfl : ad185 = ad188 := (by injection e188); replace p188 := eq_true p188; replace q188 := eq_true q188) | (go_at_call 37; (with_reducible refine (swashplateref01_From.calls (wrap64 ((rd l0 x3_1) - (rd l0 (ji9)))) 1 10000 false _ A12.out).mono ?_); rintro e w' ⟨rfl, ⟨nd, rfl⟩⟩; (try first | exact ⟨rfl, _, World.drewN_drewN _ _ _⟩ | exact ⟨rfl, _, Eq.trans (World.drewN_drewN _ _ _) (congrArg (World.drewN _) (Nat.add_assoc _ _ _))⟩))))
           go_ret
           exact ⟨by first | rfl | (simp; done) | (simp only [← hji9] <;> (first | rfl | simp)) | (simp [*]; done), by repeat (first | exact Drawn0.refl _ | apply Drawn0.step)⟩
         ·
          rw [if_neg c11] at H
          exact absurd H (by simp)
        ·
         rw [if_neg c10] at H
         exact absurd H (by simp)
       ·
        rw [if_neg c8] at H
        have c8b0 : decide (0 < x3_1) = false := decide_eq_false c8
        clear c8
        have H' := Aside0.mk H
        clear H
        have p185 : 0 ≤ (x3_1 : Int) := of_decide_eq_true (by first | (with_reducible assumption) | assumption)
        have q185 : x3_1 < (l0.length : Int) := of_decide_eq_true (by first | (with_reducible assumption) | assumption)
        obtain ⟨ad185, e185, hx185_0⟩ := Kd.at_int HR0.out x3_1 p185 q185
        cases e185
        replace p185 := eq_true p185
        replace q185 := eq_true q185
        go_wp2_with (first | (go_at_call 37; (with_reducible refine (swashplateref01_From.calls (rd l0 x3_1) (-1000000) 1000000 true _ A6.out).mono ?_); rintro e w' ⟨rfl, ⟨nd, rfl⟩⟩; (try first | exact ⟨rfl, _, World.drewN_drewN _ _ _⟩ | exact ⟨rfl, _, Eq.trans (World.drewN_drewN _ _ _) (congrArg (World.drewN _) (Nat.add_assoc _ _ _))⟩)))
        repeat (go_quiet (first | (go_at_call 37; (with_reducible refine (swashplateref01_From.calls (rd l0 x3_1) (-1000000) 1000000 true _ A6.out).mono ?_); rintro e w' ⟨rfl, ⟨nd, rfl⟩⟩; (try first | exact ⟨rfl, _, World.drewN_drewN _ _ _⟩ | exact ⟨rfl, _, Eq.trans (World.drewN_drewN _ _ _) (congrArg (World.drewN _) (Nat.add_assoc _ _ _))⟩))); try go_wp2_with (first | (go_at_call 37; (with_reducible refine (swashplateref01_From.calls (rd l0 x3_1) (-1000000) 1000000 true _ A6.out).mono ?_); rintro e w' ⟨rfl, ⟨nd, rfl⟩⟩; (try first | exact ⟨rfl, _, World.drewN_drewN _ _ _⟩ | exact ⟨rfl, _, Eq.trans (World.drewN_drewN _ _ _) (congrArg (World.drewN _) (Nat.add_assoc _ _ _))⟩))))
        go_roundg k1
        case measure => have := HK1.out; omega
        case rel => exact ⟨(wrap64 (x3_1 + 1)), (by first | rfl | (simp; done) | (simp [*]; done)), H', ⟨by have := HK1.out; omega⟩, by repeat (first | exact Drawn0.refl _ | apply Drawn0.step)⟩
      ·
       replace c7 := Bool.eq_false_iff.mpr c7
       subst c7
       have H1 : (some false) = some r := by rw [if_neg (show ¬ (false = true) by decide)] at H; exact H
       clear H
       have H := H1
       clear H1
       obtain rfl := Option.some.inj H
       have p185 : 0 ≤ (x3_1 : Int) := of_decide_eq_true (by first | (with_reducible assumption) | assumption)
       have q185 : x3_1 < (l0.length : Int) := of_decide_eq_true (by first | (with_reducible assumption) | assumption)
       obtain ⟨ad185, e185, hx185_0⟩ := Kd.at_int HR0.out x3_1 p185 q185
       cases e185
       replace p185 := eq_true p185
       replace q185 := eq_true q185
       go_wp2_with (first | (go_at_call 37; (with_reducible refine (swashplateref01_From.calls (rd l0 x3_1) (-1000000) 1000000 false _ A6.out).mono ?_); rintro e w' ⟨rfl, ⟨nd, rfl⟩⟩; (try first | exact ⟨rfl, _, World.drewN_drewN _ _ _⟩ | exact ⟨rfl, _, Eq.trans (World.drewN_drewN _ _ _) (congrArg (World.drewN _) (Nat.add_assoc _ _ _))⟩)))
       repeat (go_quiet (first | (go_at_call 37; (with_reducible refine (swashplateref01_From.calls (rd l0 x3_1) (-1000000) 1000000 false _ A6.out).mono ?_); rintro e w' ⟨rfl, ⟨nd, rfl⟩⟩; (try first | exact ⟨rfl, _, World.drewN_drewN _ _ _⟩ | exact ⟨rfl, _, Eq.trans (World.drewN_drewN _ _ _) (congrArg (World.drewN _) (Nat.add_assoc _ _ _))⟩))); try go_wp2_with (first | (go_at_call 37; (with_reducible refine (swashplateref01_From.calls (rd l0 x3_1) (-1000000) 1000000 false _ A6.out).mono ?_); rintro e w' ⟨rfl, ⟨nd, rfl⟩⟩; (try first | exact ⟨rfl, _, World.drewN_drewN _ _ _⟩ | exact ⟨rfl, _, Eq.trans (World.drewN_drewN _ _ _) (congrArg (World.drewN _) (Nat.add_assoc _ _ _))⟩))))
       go_ret
       exact ⟨by first | rfl | (simp; done) | (simp [*]; done), by repeat (first | exact Drawn0.refl _ | apply Drawn0.step)⟩
     ·
      rw [if_neg c5] at H
      exact absurd H (by simp)
    ·
     rw [if_neg c4] at H
     have c4b0 : decide (x3_1 < (l0.length : Int)) = false := decide_eq_false c4
     clear c4
     obtain rfl := Option.some.inj H
     go_wp2
     go_ret
     exact ⟨by first | rfl | (simp; done) | (simp [*]; done), by repeat (first | exact Drawn0.refl _ | apply Drawn0.step)⟩
 ·
  replace c3 := Bool.eq_false_iff.mpr c3
  subst c3
  have H1 : (some false) = some r := by rw [if_neg (show ¬ (false = true) by decide)] at H; exact H
  clear H
  have H := H1
  clear H1
  obtain rfl := Option.some.inj H
  go_enter Try.func86, Try.ntmps86
  go_wp2_with (first | (go_at_call 37; (with_reducible refine (swashplateref01_From.calls (l0.length : Int) 2 12 false _ A2.out).mono ?_); rintro e w' ⟨rfl, ⟨nd, rfl⟩⟩; (try first | exact ⟨rfl, _, World.drewN_drewN _ _ _⟩ | exact ⟨rfl, _, Eq.trans (World.drewN_drewN _ _ _) (congrArg (World.drewN _) (Nat.add_assoc _ _ _))⟩)))
  go_ret
  exact ⟨by first | rfl | (simp; done) | (simp [*]; done), by repeat (first | exact Drawn0.refl _ | apply Drawn0.step)⟩
end Go.Proofs.Yteodlmgmmpkpoaa.PS
end
section
namespace Go.Proofs.Yteodlmgmmpkpoaa.PS
open Go.RowKit Go.Proofs.YteodlmgmmpkpoaaW.PrintWords Go.Proofs.YteodlmgmmpkpoaaW.PrintLast Go.Proofs.YteodlmgmmpkpoaaW.PrintMore
attribute [local go_sem] max2_int min2_int max_two min_two max_three min_three max_four min_four   -- for this text's walks alone
set_option linter.unusedVariables false
set_option linter.unusedSimpArgs false
mutual
def swashplateref01_CheckTable.j0 : Nat → Bool → List Int → List Int → List (List Int) → Option (Int)
 | 0, _, _, _, _ => none
 | k + 1, x23, x191000, x191001, x191002 => if x23 = true then (some 11) else (swashplateref01_CheckTable.l0 k 0 x191000 x191001 x191002)
def swashplateref01_CheckTable.l0 : Nat → Int → List Int → List Int → List (List Int) → Option (Int)
 | 0, _, _, _, _ => none
 | k + 1, x3, x191000, x191001, x191002 => if x3 < (x191002.length : Int) then (if 0 ≤ x3 then (if ((rd_L3 x191002 x3).length : Int) = (x191001.length : Int) then (swashplateref01_CheckTable.l1 k x3 0 x191000 x191001 x191002) else (some 11)) else (none)) else (some 0)
def swashplateref01_CheckTable.l1 : Nat → Int → Int → List Int → List Int → List (List Int) → Option (Int)
 | 0, _, _, _, _, _ => none
 | k + 1, x3, x4, x191000, x191001, x191002 => if 0 ≤ x3 then (if x3 < (x191002.length : Int) then (if x4 < ((rd_L3 x191002 x3).length : Int) then (if 0 ≤ x4 then ((swashplateref01_From.f (rd (rd_L3 x191002 x3) x4) (-1000000) 1000000).bind fun t197 => (if t197 = true then (swashplateref01_CheckTable.l1 k x3 (wrap64 (x4 + 1)) x191000 x191001 x191002) else (some 11))) else (none)) else (swashplateref01_CheckTable.l0 k (wrap64 (x3 + 1)) x191000 x191001 x191002)) else (none)) else (none)
end
def swashplateref01_CheckTable.f (k : Nat) (l0_0 : List Int) (l0_1 : List Int) (l0_2 : List (List Int)) : Option (Int) := (swashplateref01_knots.f k l0_0).bind fun t191 => (if t191 = true then ((swashplateref01_knots.f k l0_1).bind fun t192 => (if t192 = true then (swashplateref01_CheckTable.j0 k ((l0_2.length : Int) != (l0_0.length : Int)) l0_0 l0_1 l0_2) else (swashplateref01_CheckTable.j0 k true l0_0 l0_1 l0_2))) else (swashplateref01_CheckTable.j0 k true l0_0 l0_1 l0_2))
set_option maxHeartbeats 8000000 in
set_option maxRecDepth 100000 in
theorem swashplateref01_CheckTable.calls (k : Nat) (A0_0 : Option Addr) (c0_0 : Nat) (l0_0 : List Int) (A0_1 : Option Addr) (c0_1 : Nat) (l0_1 : List Int) (A0_2 : Option Addr) (c0_2 : Nat) (l0_2 : List (List Int)) (r : Int) (w : World) (hr0_0 : Kd.C (Kd.int .i64) w A0_0 l0_0.length l0_0) (hc0_0 : l0_0.length ≤ c0_0) (hr0_1 : Kd.C (Kd.int .i64) w A0_1 l0_1.length l0_1) (hc0_1 : l0_1.length ≤ c0_1) (hr0_2 : Kd.C (Kd.slice 3 (Kd.int .i64)) w A0_2 l0_2.length l0_2) (hc0_2 : l0_2.length ≤ c0_2) (h : swashplateref01_CheckTable.f k l0_0 l0_1 l0_2 = some r) :
  Calls Try.prog 21 #[.agg #[.slice A0_0 l0_0.length c0_0, .slice A0_1 l0_1.length c0_1, .slice A0_2 l0_2.length c0_2]] w fun e w' => e = .returned (.int .i64 r) ∧ Below w.heap.size w w' := by
 have hu25 := Try.underlying25
 have HR0_0 := Aside0.mk hr0_0
 have HC0_0 := Aside0.mk hc0_0
 clear hr0_0 hc0_0
 have HR0_1 := Aside0.mk hr0_1
 have HC0_1 := Aside0.mk hc0_1
 clear hr0_1 hc0_1
 have HR0_2 := Aside0.mk hr0_2
 have HC0_2 := Aside0.mk hc0_2
 clear hr0_2 hc0_2
 have HB := Aside0.mk (Below.refl w.heap.size w)
 have H : ((swashplateref01_knots.f k l0_0).bind fun t191 => (if t191 = true then ((swashplateref01_knots.f k l0_1).bind fun t192 => (if t192 = true then (swashplateref01_CheckTable.j0 k ((l0_2.length : Int) != (l0_0.length : Int)) l0_0 l0_1 l0_2) else (swashplateref01_CheckTable.j0 k true l0_0 l0_1 l0_2))) else (swashplateref01_CheckTable.j0 k true l0_0 l0_1 l0_2))) = some r := h
 clear h
 have HC2 := Aside0.mk H
 clear H
 go_enter Try.func21, Try.ntmps21
 go_upto_region 1 with (first | ((with_reducible refine gate_dst (N := 1) rfl ?_); (try (refine gate_guard (by rfl) ?_; dsimp only)); refine box_event ?hg (N := 1) ?hd (cs := #[.slice A0_0 l0_0.length c0_0, .slice A0_1 l0_1.length c0_1, .slice A0_2 l0_2.length c0_2]) (t := 25) ?hr ?_; (case hd => rfl); (case hg => rfl); (case hr => first | (go_simp; done) | (go_simp; rfl)); intro gb190 hg w3 hbox hb; have n0_ := Aside0.mk (below_step (bl_ HB.out) hb); have n1_ := Aside0.mk (hbox); have n2_ := Aside0.mk (szl_ hg HB.out); have n3_ := Aside0.mk (szl_ hg HB.out); clear HB; have HB := n0_; have BK190 := n1_; have GW190 := n2_; have GE190 := n3_; clear n0_ n1_ n2_ n3_ hb hbox hg))
 (try simp only [Act.put, List.setIfInBounds_toArray, List.set_cons_zero, List.set_cons_succ])
 go_cut [23] (fun v23 wc => ∃ (kq : Nat) (x23_1 : Bool), v23 = .bool x23_1 ∧ Aside0 (swashplateref01_CheckTable.j0 kq x23_1 l0_0 l0_1 l0_2 = some r) ∧ Aside0 (kq ≤ k) ∧ Aside0 (wc.heap[gb190]? = some (.cells #[(.slice A0_0 l0_0.length c0_0), (.slice A0_1 l0_1.length c0_1), (.slice A0_2 l0_2.length c0_2)] 25 (0, 0))) ∧ Aside0 (Below w.heap.size w wc))
 case first =>
  have H := HC2.out
  clear HC2
  replace H := Option.bind_eq_some_iff.mp H
  obtain ⟨t191, A40, H⟩ := H
  replace H : (if t191 = true then ((swashplateref01_knots.f k l0_1).bind fun t192 => (if t192 = true then (swashplateref01_CheckTable.j0 k ((l0_2.length : Int) != (l0_0.length : Int)) l0_0 l0_1 l0_2) else (swashplateref01_CheckTable.j0 k true l0_0 l0_1 l0_2))) else (swashplateref01_CheckTable.j0 k true l0_0 l0_1 l0_2)) = some r := H
  have A4 := Aside0.mk A40
  clear A40
  by_cases c5 : t191 = true
  ·
   subst c5
   have H1 : ((swashplateref01_knots.f k l0_1).bind fun t192 => (if t192 = true then (swashplateref01_CheckTable.j0 k ((l0_2.length : Int) != (l0_0.length : Int)) l0_0 l0_1 l0_2) else (swashplateref01_CheckTable.j0 k true l0_0 l0_1 l0_2))) = some r := by rw [if_pos rfl] at H; exact H
   clear H
   have H := H1
   clear H1
   replace H := Option.bind_eq_some_iff.mp H
   obtain ⟨t192, A60, H⟩ := H
   replace H : (if t192 = true then (swashplateref01_CheckTable.j0 k ((l0_2.length : Int) != (l0_0.length : Int)) l0_0 l0_1 l0_2) else (swashplateref01_CheckTable.j0 k true l0_0 l0_1 l0_2)) = some r := H
   have A6 := Aside0.mk A60
   clear A60
   by_cases c7 : t192 = true
   ·
    subst c7
    have H1 : (swashplateref01_CheckTable.j0 k ((l0_2.length : Int) != (l0_0.length : Int)) l0_0 l0_1 l0_2) = some r := by rw [if_pos rfl] at H; exact H
    clear H
    have H := H1
    clear H1
    have H' := Aside0.mk H
    clear H
    have hcz8_0 : w3.cell? ⟨gb190, 0, none⟩ = some (.slice A0_0 l0_0.length c0_0) := (blk_cell BK190.out 0).trans rfl
    have hcz8_1 : w3.cell? ⟨gb190, 1, none⟩ = some (.slice A0_1 l0_1.length c0_1) := (blk_cell BK190.out 1).trans rfl
    have hcz8_2 : w3.cell? ⟨gb190, 2, none⟩ = some (.slice A0_2 l0_2.length c0_2) := (blk_cell BK190.out 2).trans rfl
    have hfz8_0 := blk_frozen BK190.out 0
    have hfz8_1 := blk_frozen BK190.out 1
    have hfz8_2 := blk_frozen BK190.out 2
    go_wp2_with (first | (go_at_call 86; (with_reducible refine (swashplateref01_knots.calls k _ _ l0_0 true _ ?side1 ?side2 A4.out).mono ?_); (case side1 => exact cr_ (Kd.C_below HR0_0.out HB.out)); (case side2 => exact HC0_0.out); rintro e w' ⟨rfl, ⟨nd, rfl⟩⟩; (try first | exact ⟨rfl, _, World.drewN_drewN _ _ _⟩ | exact ⟨rfl, _, Eq.trans (World.drewN_drewN _ _ _) (congrArg (World.drewN _) (Nat.add_assoc _ _ _))⟩)) | (go_at_call 86; (with_reducible refine (swashplateref01_knots.calls k _ _ l0_1 true _ ?side1 ?side2 A6.out).mono ?_); (case side1 => exact cr_ (Kd.C_below HR0_1.out (bl_ HB.out))); (case side2 => exact HC0_1.out); rintro e w' ⟨rfl, ⟨nd, rfl⟩⟩; (try first | exact ⟨rfl, _, World.drewN_drewN _ _ _⟩ | exact ⟨rfl, _, Eq.trans (World.drewN_drewN _ _ _) (congrArg (World.drewN _) (Nat.add_assoc _ _ _))⟩)))
    go_meet
    case rel => exact ⟨_, (((l0_2.length : Int) != (l0_0.length : Int))), (by first | rfl | (simp; done) | (simp [*]; done)), H', ⟨by first | omega | exact Nat.le_refl _⟩, ⟨bk_ BK190.out⟩, ⟨bl_ HB.out⟩⟩
   ·
    replace c7 := Bool.eq_false_iff.mpr c7
    subst c7
    have H1 : (swashplateref01_CheckTable.j0 k true l0_0 l0_1 l0_2) = some r := by rw [if_neg (show ¬ (false = true) by decide)] at H; exact H
    clear H
    have H := H1
    clear H1
    have H' := Aside0.mk H
    clear H
    have hcz9_0 : w3.cell? ⟨gb190, 0, none⟩ = some (.slice A0_0 l0_0.length c0_0) := (blk_cell BK190.out 0).trans rfl
    have hcz9_1 : w3.cell? ⟨gb190, 1, none⟩ = some (.slice A0_1 l0_1.length c0_1) := (blk_cell BK190.out 1).trans rfl
    have hcz9_2 : w3.cell? ⟨gb190, 2, none⟩ = some (.slice A0_2 l0_2.length c0_2) := (blk_cell BK190.out 2).trans rfl
    have hfz9_0 := blk_frozen BK190.out 0
    have hfz9_1 := blk_frozen BK190.out 1
    have hfz9_2 := blk_frozen BK190.out 2
    go_wp2_with (first | (go_at_call 86; (with_reducible refine (swashplateref01_knots.calls k _ _ l0_0 true _ ?side1 ?side2 A4.out).mono ?_); (case side1 => exact cr_ (Kd.C_below HR0_0.out HB.out)); (case side2 => exact HC0_0.out); rintro e w' ⟨rfl, ⟨nd, rfl⟩⟩; (try first | exact ⟨rfl, _, World.drewN_drewN _ _ _⟩ | exact ⟨rfl, _, Eq.trans (World.drewN_drewN _ _ _) (congrArg (World.drewN _) (Nat.add_assoc _ _ _))⟩)) | (go_at_call 86; (with_reducible refine (swashplateref01_knots.calls k _ _ l0_1 false _ ?side1 ?side2 A6.out).mono ?_); (case side1 => exact cr_ (Kd.C_below HR0_1.out (bl_ HB.out))); (case side2 => exact HC0_1.out); rintro e w' ⟨rfl, ⟨nd, rfl⟩⟩; (try first | exact ⟨rfl, _, World.drewN_drewN _ _ _⟩ | exact ⟨rfl, _, Eq.trans (World.drewN_drewN _ _ _) (congrArg (World.drewN _) (Nat.add_assoc _ _ _))⟩)))
    go_meet
    case rel => exact ⟨_, (true), (by first | rfl | (simp; done) | (simp [*]; done)), H', ⟨by first | omega | exact Nat.le_refl _⟩, ⟨bk_ BK190.out⟩, ⟨bl_ HB.out⟩⟩
  ·
   replace c5 := Bool.eq_false_iff.mpr c5
   subst c5
   have H1 : (swashplateref01_CheckTable.j0 k true l0_0 l0_1 l0_2) = some r := by rw [if_neg (show ¬ (false = true) by decide)] at H; exact H
   clear H
   have H := H1
   clear H1
   have H' := Aside0.mk H
   clear H
   have hcz10_0 : w3.cell? ⟨gb190, 0, none⟩ = some (.slice A0_0 l0_0.length c0_0) := (blk_cell BK190.out 0).trans rfl
   have hcz10_1 : w3.cell? ⟨gb190, 1, none⟩ = some (.slice A0_1 l0_1.length c0_1) := (blk_cell BK190.out 1).trans rfl
   have hcz10_2 : w3.cell? ⟨gb190, 2, none⟩ = some (.slice A0_2 l0_2.length c0_2) := (blk_cell BK190.out 2).trans rfl
   have hfz10_0 := blk_frozen BK190.out 0
   have hfz10_1 := blk_frozen BK190.out 1
   have hfz10_2 := blk_frozen BK190.out 2
   go_wp2_with (first | (go_at_call 86; (with_reducible refine (swashplateref01_knots.calls k _ _ l0_0 false _ ?side1 ?side2 A4.out).mono ?_); (case side1 => exact cr_ (Kd.C_below HR0_0.out HB.out)); (case side2 => exact HC0_0.out); rintro e w' ⟨rfl, ⟨nd, rfl⟩⟩; (try first | exact ⟨rfl, _, World.drewN_drewN _ _ _⟩ | exact ⟨rfl, _, Eq.trans (World.drewN_drewN _ _ _) (congrArg (World.drewN _) (Nat.add_assoc _ _ _))⟩)))
   go_meet
   case rel => exact ⟨_, (true), (by first | rfl | (simp; done) | (simp [*]; done)), H', ⟨by first | omega | exact Nat.le_refl _⟩, ⟨bk_ BK190.out⟩, ⟨bl_ HB.out⟩⟩
 case rest =>
  clear HC2
  try clear c2
  try clear p2
  try clear c5
  try clear c7
  try clear hcz10_0
  try clear hcz10_1
  try clear hcz10_2
  try clear hcz8_0
  try clear hcz8_1
  try clear hcz8_2
  try clear hcz9_0
  try clear hcz9_1
  try clear hcz9_2
  try clear hfz10_0
  try clear hfz10_1
  try clear hfz10_2
  try clear hfz8_0
  try clear hfz8_1
  try clear hfz8_2
  try clear hfz9_0
  try clear hfz9_1
  try clear hfz9_2
  obtain ⟨kq, x23_1, rfl, HA, HJ1, BK190, HB⟩ := hcut
  cases kq with
  | zero => exact absurd HA.out (by simp [swashplateref01_CheckTable.j0])
  | succ kj1 =>
   have H := HA.out
   clear HA
   simp only [swashplateref01_CheckTable.j0] at H
   by_cases c11 : x23_1 = true
   ·
    subst c11
    have H1 : (some 11) = some r := by rw [if_pos rfl] at H; exact H
    clear H
    have H := H1
    clear H1
    obtain rfl := Option.some.inj H
    go_wp2
    go_ret
    exact ⟨by first | rfl | (simp [errW_none, errW_some] <;> rfl) | (simp [*, errW_none, errW_some] <;> rfl), bl_ HB.out⟩
   ·
    replace c11 := Bool.eq_false_iff.mpr c11
    subst c11
    have H1 : (swashplateref01_CheckTable.l0 kj1 0 l0_0 l0_1 l0_2) = some r := by rw [if_neg (show ¬ (false = true) by decide)] at H; exact H
    clear H
    have H := H1
    clear H1
    have H' := Aside0.mk H
    clear H
    go_wp2
    go_loopg [3] kj1 (fun kq v3 w' => ∃ (x3_2 : Int), v3 = .int .i64 x3_2 ∧ Aside0 (swashplateref01_CheckTable.l0 kq x3_2 l0_0 l0_1 l0_2 = some r) ∧ Aside0 (kq ≤ kj1) ∧ Aside0 (w'.heap[gb190]? = some (.cells #[(.slice A0_0 l0_0.length c0_0), (.slice A0_1 l0_1.length c0_1), (.slice A0_2 l0_2.length c0_2)] 25 (0, 0))) ∧ Aside0 (Below w.heap.size w w'))
    case atStart => exact ⟨(0), (by first | rfl | (simp; done) | (simp [*]; done)), H', ⟨Nat.le_refl _⟩, ⟨bk_ BK190.out⟩, ⟨bl_ HB.out⟩⟩
    case round =>
     clear H'
     try clear c1
     try clear c2
     try clear p2
     try clear c5
     try clear c7
     try clear c11
     try clear hcz10_0
     try clear hcz10_1
     try clear hcz10_2
     try clear hcz8_0
     try clear hcz8_1
     try clear hcz8_2
     try clear hcz9_0
     try clear hcz9_1
     try clear hcz9_2
     try clear hfz10_0
     try clear hfz10_1
     try clear hfz10_2
     try clear hfz8_0
     try clear hfz8_1
     try clear hfz8_2
     try clear hfz9_0
     try clear hfz9_1
     try clear hfz9_2
     try clear p2
     obtain ⟨x3_2, rfl, HA, HK2, BK190, HB⟩ := hrel
     cases gk with
     | zero => exact absurd HA.out (by simp [swashplateref01_CheckTable.l0])
     | succ k2 =>
      have H := HA.out
      clear HA
      simp only [swashplateref01_CheckTable.l0] at H
      by_cases c12 : x3_2 < (l0_2.length : Int)
      ·
       rw [if_pos c12] at H
       have c12b0 : decide (x3_2 < (l0_2.length : Int)) = true := decide_eq_true c12
       clear c12
       by_cases c13 : 0 ≤ x3_2
       ·
        rw [if_pos c13] at H
        have c13b0 : decide (0 ≤ x3_2) = true := decide_eq_true c13
        clear c13
        by_cases c14 : ((rd_L3 l0_2 x3_2).length : Int) = (l0_1.length : Int)
        ·
         rw [if_pos c14] at H
         have c14b0 : (((rd_L3 l0_2 x3_2).length : Int) == (l0_1.length : Int)) = true := beq_iff_eq.mpr c14
         have c14b1 : (((rd_L3 l0_2 x3_2).length : Int) != (l0_1.length : Int)) = false := bne_eq_false_iff_eq.mpr c14
         have c14b2 : ((rd_L3 l0_2 x3_2).length == l0_1.length) = true := by first | simpa using c14 | (simp at c14 ⊢; omega)
         clear c14
         have H' := Aside0.mk H
         clear H
         have hcz15_0 : wr.cell? ⟨gb190, 0, none⟩ = some (.slice A0_0 l0_0.length c0_0) := (blk_cell BK190.out 0).trans rfl
         have hcz15_1 : wr.cell? ⟨gb190, 1, none⟩ = some (.slice A0_1 l0_1.length c0_1) := (blk_cell BK190.out 1).trans rfl
         have hcz15_2 : wr.cell? ⟨gb190, 2, none⟩ = some (.slice A0_2 l0_2.length c0_2) := (blk_cell BK190.out 2).trans rfl
         have hfz15_0 := blk_frozen BK190.out 0
         have hfz15_1 := blk_frozen BK190.out 1
         have hfz15_2 := blk_frozen BK190.out 2
         have p193 : 0 ≤ (x3_2 : Int) := of_decide_eq_true (by first | (with_reducible assumption) | assumption)
         have q193 : x3_2 < (l0_2.length : Int) := of_decide_eq_true (by first | (with_reducible assumption) | assumption)
         obtain ⟨ad193, A193_0, c193_0, e193, hx193_0, hl193_0, hi193_0⟩ := at_L3 HR0_2.out x3_2 p193 q193
         cases e193
         replace hx193_0 := (HB.out.cell (World.block_lt_of_cell? w _ hx193_0)).trans hx193_0
         have HR193_0 := Aside0.mk hi193_0
         have HC193_0 := Aside0.mk hl193_0
         clear hi193_0 hl193_0
         replace p193 := eq_true p193
         replace q193 := eq_true q193
         go_wp2
         repeat (go_quiet (fail); try go_wp2)
         go_loopg [4] k2 (fun kq v4 w' => ∃ (x4_3 : Int), v4 = .int .i64 x4_3 ∧ Aside0 (swashplateref01_CheckTable.l1 kq x3_2 x4_3 l0_0 l0_1 l0_2 = some r) ∧ Aside0 (kq ≤ k2) ∧ Aside0 (w'.heap[gb190]? = some (.cells #[(.slice A0_0 l0_0.length c0_0), (.slice A0_1 l0_1.length c0_1), (.slice (some ad193) l0_2.length c0_2)] 25 (0, 0))) ∧ Aside0 (Below w.heap.size w w'))
         case atStart => exact ⟨(0), (by first | rfl | (simp; done) | (simp [*]; done)), H', ⟨Nat.le_refl _⟩, ⟨bk_ BK190.out⟩, ⟨bl_ HB.out⟩⟩
         case round =>
          clear H'
          try clear c1
          try clear p1
          try clear q1
          try clear hx1
          try clear c2
          try clear p2
          try clear c5
          try clear c7
          try clear c11
          try clear c12
          try clear c12b0
          try clear c13
          try clear c13b0
          try clear c14
          try clear c14b0
          try clear c14b1
          try clear c14b2
          try clear hcz10_0
          try clear hcz10_1
          try clear hcz10_2
          try clear hcz15_0
          try clear hcz15_1
          try clear hcz15_2
          try clear hcz8_0
          try clear hcz8_1
          try clear hcz8_2
          try clear hcz9_0
          try clear hcz9_1
          try clear hcz9_2
          try clear hfz10_0
          try clear hfz10_1
          try clear hfz10_2
          try clear hfz15_0
          try clear hfz15_1
          try clear hfz15_2
          try clear hfz8_0
          try clear hfz8_1
          try clear hfz8_2
          try clear hfz9_0
          try clear hfz9_1
          try clear hfz9_2
          try clear hx193_0
          try clear p193
          try clear p2
          try clear q193
          obtain ⟨x4_3, rfl, HA, HK3, BK190, HB⟩ := hrel
          cases gk with
          | zero => exact absurd HA.out (by simp [swashplateref01_CheckTable.l1])
          | succ k3 =>
           have H := HA.out
           clear HA
           simp only [swashplateref01_CheckTable.l1] at H
           by_cases c16 : 0 ≤ x3_2
           ·
            rw [if_pos c16] at H
            have c16b0 : decide (0 ≤ x3_2) = true := decide_eq_true c16
            clear c16
            by_cases c17 : x3_2 < (l0_2.length : Int)
            ·
             rw [if_pos c17] at H
             have c17b0 : decide (x3_2 < (l0_2.length : Int)) = true := decide_eq_true c17
             clear c17
             by_cases c18 : x4_3 < ((rd_L3 l0_2 x3_2).length : Int)
             ·
              rw [if_pos c18] at H
              have c18b0 : decide (x4_3 < ((rd_L3 l0_2 x3_2).length : Int)) = true := decide_eq_true c18
              clear c18
              by_cases c19 : 0 ≤ x4_3
              ·
               rw [if_pos c19] at H
               have c19b0 : decide (0 ≤ x4_3) = true := decide_eq_true c19
               clear c19
               replace H := Option.bind_eq_some_iff.mp H
               obtain ⟨t197, A200, H⟩ := H
               replace H : (if t197 = true then (swashplateref01_CheckTable.l1 k3 x3_2 (wrap64 (x4_3 + 1)) l0_0 l0_1 l0_2) else (some 11)) = some r := H
               have A20 := Aside0.mk A200
               clear A200
               by_cases c21 : t197 = true
               ·
                subst c21
                have H1 : (swashplateref01_CheckTable.l1 k3 x3_2 (wrap64 (x4_3 + 1)) l0_0 l0_1 l0_2) = some r := by rw [if_pos rfl] at H; exact H
                clear H
                have H := H1
                clear H1
                have H' := Aside0.mk H
                clear H
                have hcz22_0 : wr.cell? ⟨gb190, 0, none⟩ = some (.slice A0_0 l0_0.length c0_0) := (blk_cell BK190.out 0).trans rfl
                have hcz22_1 : wr.cell? ⟨gb190, 1, none⟩ = some (.slice A0_1 l0_1.length c0_1) := (blk_cell BK190.out 1).trans rfl
                have hcz22_2 : wr.cell? ⟨gb190, 2, none⟩ = some (.slice (some ad193) l0_2.length c0_2) := (blk_cell BK190.out 2).trans rfl
                have hfz22_0 := blk_frozen BK190.out 0
                have hfz22_1 := blk_frozen BK190.out 1
                have hfz22_2 := blk_frozen BK190.out 2
                have p194 : 0 ≤ (x3_2 : Int) := of_decide_eq_true (by first | (with_reducible assumption) | assumption)
                have q194 : x3_2 < (l0_2.length : Int) := of_decide_eq_true (by first | (with_reducible assumption) | assumption)
                obtain ⟨ad194, A194_0, c194_0, e194, hx194_0, hl194_0, hi194_0⟩ := at_L3 HR0_2.out x3_2 p194 q194
                obtain rfl : ad193 = ad194 := (by injection e194)
                replace hx194_0 := (HB.out.cell (World.block_lt_of_cell? w _ hx194_0)).trans hx194_0
                have HR194_0 := Aside0.mk hi194_0
                have HC194_0 := Aside0.mk hl194_0
                clear hi194_0 hl194_0
                replace p194 := eq_true p194
                replace q194 := eq_true q194
                have p195 : 0 ≤ (x3_2 : Int) := of_decide_eq_true (by first | (with_reducible assumption) | assumption)
                have q195 : x3_2 < (l0_2.length : Int) := of_decide_eq_true (by first | (with_reducible assumption) | assumption)
                obtain ⟨ad195, A195_0, c195_0, e195, hx195_0, hl195_0, hi195_0⟩ := at_L3 HR0_2.out x3_2 p195 q195
                obtain rfl : ad193 = ad195 := (by injection e195)
                replace hx195_0 := (HB.out.cell (World.block_lt_of_cell? w _ hx195_0)).trans hx195_0
                have HR195_0 := Aside0.mk hi195_0
                have HC195_0 := Aside0.mk hl195_0
                clear hi195_0 hl195_0
                replace p195 := eq_true p195
                replace q195 := eq_true q195
                have ea_ := Option.some.inj (hx194_0.symm.trans hx195_0)
                injection ea_ with ea_ en_ ec_
                subst ea_
                subst ec_
                clear en_
                have p196 : 0 ≤ (x4_3 : Int) := of_decide_eq_true (by first | (with_reducible assumption) | assumption)
                have q196 : x4_3 < ((rd_L3 l0_2 x3_2).length : Int) := of_decide_eq_true (by first | (with_reducible assumption) | assumption)
                obtain ⟨ad196, e196, hx196_0⟩ := Kd.at_int HR195_0.out x4_3 p196 q196
                cases e196
                replace hx196_0 := (HB.out.cell (World.block_lt_of_cell? w _ hx196_0)).trans hx196_0
                replace p196 := eq_true p196
                replace q196 := eq_true q196
                go_wp2_with (first | (go_at_call 37; (with_reducible refine (swashplateref01_From.calls (rd (rd_L3 l0_2 x3_2) x4_3) (-1000000) 1000000 true _ A20.out).mono ?_); rintro e w' ⟨rfl, ⟨nd, rfl⟩⟩; (try first | exact ⟨rfl, _, World.drewN_drewN _ _ _⟩ | exact ⟨rfl, _, Eq.trans (World.drewN_drewN _ _ _) (congrArg (World.drewN _) (Nat.add_assoc _ _ _))⟩)))
                go_roundg k3
                case measure => have := HJ1.out; have := HK2.out; have := HK3.out; omega
                case rel => exact ⟨(wrap64 (x4_3 + 1)), (by first | rfl | (simp; done) | (simp [*]; done)), H', ⟨by have := HJ1.out; have := HK2.out; have := HK3.out; omega⟩, ⟨bk_ BK190.out⟩, ⟨bl_ HB.out⟩⟩
               ·
                replace c21 := Bool.eq_false_iff.mpr c21
                subst c21
                have H1 : (some 11) = some r := by rw [if_neg (show ¬ (false = true) by decide)] at H; exact H
                clear H
                have H := H1
                clear H1
                obtain rfl := Option.some.inj H
                have hcz23_0 : wr.cell? ⟨gb190, 0, none⟩ = some (.slice A0_0 l0_0.length c0_0) := (blk_cell BK190.out 0).trans rfl
                have hcz23_1 : wr.cell? ⟨gb190, 1, none⟩ = some (.slice A0_1 l0_1.length c0_1) := (blk_cell BK190.out 1).trans rfl
                have hcz23_2 : wr.cell? ⟨gb190, 2, none⟩ = some (.slice (some ad193) l0_2.length c0_2) := (blk_cell BK190.out 2).trans rfl
                have hfz23_0 := blk_frozen BK190.out 0
                have hfz23_1 := blk_frozen BK190.out 1
                have hfz23_2 := blk_frozen BK190.out 2
                have p194 : 0 ≤ (x3_2 : Int) := of_decide_eq_true (by first | (with_reducible assumption) | assumption)
                have q194 : x3_2 < (l0_2.length : Int) := of_decide_eq_true (by first | (with_reducible assumption) | assumption)
                obtain ⟨ad194, A194_0, c194_0, e194, hx194_0, hl194_0, hi194_0⟩ := at_L3 HR0_2.out x3_2 p194 q194
                obtain rfl : ad193 = ad194 := (by injection e194)
                replace hx194_0 := (HB.out.cell (World.block_lt_of_cell? w _ hx194_0)).trans hx194_0
                have HR194_0 := Aside0.mk hi194_0
                have HC194_0 := Aside0.mk hl194_0
                clear hi194_0 hl194_0
                replace p194 := eq_true p194
                replace q194 := eq_true q194
                have p195 : 0 ≤ (x3_2 : Int) := of_decide_eq_true (by first | (with_reducible assumption) | assumption)
                have q195 : x3_2 < (l0_2.length : Int) := of_decide_eq_true (by first | (with_reducible assumption) | assumption)
                obtain ⟨ad195, A195_0, c195_0, e195, hx195_0, hl195_0, hi195_0⟩ := at_L3 HR0_2.out x3_2 p195 q195
                obtain rfl : ad193 = ad195 := (by injection e195)
                replace hx195_0 := (HB.out.cell (World.block_lt_of_cell? w _ hx195_0)).trans hx195_0
                have HR195_0 := Aside0.mk hi195_0
                have HC195_0 := Aside0.mk hl195_0
                clear hi195_0 hl195_0
                replace p195 := eq_true p195
                replace q195 := eq_true q195
                have ea_ := Option.some.inj (hx194_0.symm.trans hx195_0)
                injection ea_ with ea_ en_ ec_
                subst ea_
                subst ec_
                clear en_
                have p196 : 0 ≤ (x4_3 : Int) := of_decide_eq_true (by first | (with_reducible assumption) | assumption)
                have q196 : x4_3 < ((rd_L3 l0_2 x3_2).length : Int) := of_decide_eq_true (by first | (with_reducible assumption) | assumption)
                obtain ⟨ad196, e196, hx196_0⟩ := Kd.at_int HR195_0.out x4_3 p196 q196
                cases e196
                replace hx196_0 := (HB.out.cell (World.block_lt_of_cell? w _ hx196_0)).trans hx196_0
                replace p196 := eq_true p196
                replace q196 := eq_true q196
                go_wp2_with (first | (go_at_call 37; (with_reducible refine (swashplateref01_From.calls (rd (rd_L3 l0_2 x3_2) x4_3) (-1000000) 1000000 false _ A20.out).mono ?_); rintro e w' ⟨rfl, ⟨nd, rfl⟩⟩; (try first | exact ⟨rfl, _, World.drewN_drewN _ _ _⟩ | exact ⟨rfl, _, Eq.trans (World.drewN_drewN _ _ _) (congrArg (World.drewN _) (Nat.add_assoc _ _ _))⟩)))
                go_ret
                exact ⟨by first | rfl | (simp [errW_none, errW_some] <;> rfl) | (simp [*, errW_none, errW_some] <;> rfl), bl_ HB.out⟩
              ·
               rw [if_neg c19] at H
               exact absurd H (by simp)
             ·
              rw [if_neg c18] at H
              have c18b0 : decide (x4_3 < ((rd_L3 l0_2 x3_2).length : Int)) = false := decide_eq_false c18
              clear c18
              have H' := Aside0.mk H
              clear H
              have hcz24_0 : wr.cell? ⟨gb190, 0, none⟩ = some (.slice A0_0 l0_0.length c0_0) := (blk_cell BK190.out 0).trans rfl
              have hcz24_1 : wr.cell? ⟨gb190, 1, none⟩ = some (.slice A0_1 l0_1.length c0_1) := (blk_cell BK190.out 1).trans rfl
              have hcz24_2 : wr.cell? ⟨gb190, 2, none⟩ = some (.slice (some ad193) l0_2.length c0_2) := (blk_cell BK190.out 2).trans rfl
              have hfz24_0 := blk_frozen BK190.out 0
              have hfz24_1 := blk_frozen BK190.out 1
              have hfz24_2 := blk_frozen BK190.out 2
              have p194 : 0 ≤ (x3_2 : Int) := of_decide_eq_true (by first | (with_reducible assumption) | assumption)
              have q194 : x3_2 < (l0_2.length : Int) := of_decide_eq_true (by first | (with_reducible assumption) | assumption)
              obtain ⟨ad194, A194_0, c194_0, e194, hx194_0, hl194_0, hi194_0⟩ := at_L3 HR0_2.out x3_2 p194 q194
              obtain rfl : ad193 = ad194 := (by injection e194)
              replace hx194_0 := (HB.out.cell (World.block_lt_of_cell? w _ hx194_0)).trans hx194_0
              have HR194_0 := Aside0.mk hi194_0
              have HC194_0 := Aside0.mk hl194_0
              clear hi194_0 hl194_0
              replace p194 := eq_true p194
              replace q194 := eq_true q194
              go_wp2
              go_roundg k3
              case measure => have := HJ1.out; have := HK2.out; have := HK3.out; omega
              case rel => exact ⟨(wrap64 (x3_2 + 1)), (by first | rfl | (simp; done) | (simp [*]; done)), H', ⟨by have := HJ1.out; have := HK2.out; have := HK3.out; omega⟩, ⟨bk_ BK190.out⟩, ⟨bl_ HB.out⟩⟩
            ·
             rw [if_neg c17] at H
             exact absurd H (by simp)
           ·
            rw [if_neg c16] at H
            exact absurd H (by simp)
        ·
         rw [if_neg c14] at H
         have c14b0 : (((rd_L3 l0_2 x3_2).length : Int) == (l0_1.length : Int)) = false := beq_eq_false_iff_ne.mpr c14
         have c14b1 : (((rd_L3 l0_2 x3_2).length : Int) != (l0_1.length : Int)) = true := bne_iff_ne.mpr c14
         have c14b2 : ((rd_L3 l0_2 x3_2).length == l0_1.length) = false := by first | simpa using c14 | (simp at c14 ⊢; omega)
         obtain rfl := Option.some.inj H
         have hcz25_0 : wr.cell? ⟨gb190, 0, none⟩ = some (.slice A0_0 l0_0.length c0_0) := (blk_cell BK190.out 0).trans rfl
         have hcz25_1 : wr.cell? ⟨gb190, 1, none⟩ = some (.slice A0_1 l0_1.length c0_1) := (blk_cell BK190.out 1).trans rfl
         have hcz25_2 : wr.cell? ⟨gb190, 2, none⟩ = some (.slice A0_2 l0_2.length c0_2) := (blk_cell BK190.out 2).trans rfl
         have hfz25_0 := blk_frozen BK190.out 0
         have hfz25_1 := blk_frozen BK190.out 1
         have hfz25_2 := blk_frozen BK190.out 2
         have p193 : 0 ≤ (x3_2 : Int) := of_decide_eq_true (by first | (with_reducible assumption) | assumption)
         have q193 : x3_2 < (l0_2.length : Int) := of_decide_eq_true (by first | (with_reducible assumption) | assumption)
         obtain ⟨ad193, A193_0, c193_0, e193, hx193_0, hl193_0, hi193_0⟩ := at_L3 HR0_2.out x3_2 p193 q193
         cases e193
         replace hx193_0 := (HB.out.cell (World.block_lt_of_cell? w _ hx193_0)).trans hx193_0
         have HR193_0 := Aside0.mk hi193_0
         have HC193_0 := Aside0.mk hl193_0
         clear hi193_0 hl193_0
         replace p193 := eq_true p193
         replace q193 := eq_true q193
         go_wp2
         repeat (go_quiet (fail); try go_wp2)
         go_ret
         exact ⟨by first | rfl | (simp [errW_none, errW_some] <;> rfl) | (simp [*, errW_none, errW_some] <;> rfl), bl_ HB.out⟩
       ·
        rw [if_neg c13] at H
        exact absurd H (by simp)
      ·
       rw [if_neg c12] at H
       have c12b0 : decide (x3_2 < (l0_2.length : Int)) = false := decide_eq_false c12
       clear c12
       obtain rfl := Option.some.inj H
       have hcz26_0 : wr.cell? ⟨gb190, 0, none⟩ = some (.slice A0_0 l0_0.length c0_0) := (blk_cell BK190.out 0).trans rfl
       have hcz26_1 : wr.cell? ⟨gb190, 1, none⟩ = some (.slice A0_1 l0_1.length c0_1) := (blk_cell BK190.out 1).trans rfl
       have hcz26_2 : wr.cell? ⟨gb190, 2, none⟩ = some (.slice A0_2 l0_2.length c0_2) := (blk_cell BK190.out 2).trans rfl
       have hfz26_0 := blk_frozen BK190.out 0
       have hfz26_1 := blk_frozen BK190.out 1
       have hfz26_2 := blk_frozen BK190.out 2
       go_wp2
       go_ret
       exact ⟨by first | rfl | (simp [errW_none, errW_some] <;> rfl) | (simp [*, errW_none, errW_some] <;> rfl), bl_ HB.out⟩
end Go.Proofs.Yteodlmgmmpkpoaa.PS
end
section
namespace Go.Proofs.Yteodlmgmmpkpoaa.PS
open Go.RowKit Go.Proofs.YteodlmgmmpkpoaaW.PrintWords Go.Proofs.YteodlmgmmpkpoaaW.PrintLast Go.Proofs.YteodlmgmmpkpoaaW.PrintMore
attribute [local go_sem] max2_int min2_int max_two min_two max_three min_three max_four min_four   -- for this text's walks alone
set_option linter.unusedVariables false
set_option linter.unusedSimpArgs false
def swashplateref01_Valid.f (a0_0 : Int) (a0_1 : Int) : Option (Bool) := (swashplateref01_From.f a0_0 (-1000000) 1000000).bind fun t330 => (if t330 = true then ((swashplateref01_From.f a0_1 a0_0 1000000).bind fun t331 => (some t331)) else (some false))
set_option maxHeartbeats 8000000 in
set_option maxRecDepth 100000 in
theorem swashplateref01_Valid.calls (a0_0 : Int) (a0_1 : Int) (r : Bool) (w : World) (h : swashplateref01_Valid.f a0_0 a0_1 = some r) :
  Calls Try.prog 40 #[.agg #[.int .i64 a0_0, .int .i64 a0_1]] w fun e w' => e = .returned (.bool r) ∧ Below w.heap.size w w' := by
 have hu27 := Try.underlying27
 have HB := Aside0.mk (Below.refl w.heap.size w)
 have H : ((swashplateref01_From.f a0_0 (-1000000) 1000000).bind fun t330 => (if t330 = true then ((swashplateref01_From.f a0_1 a0_0 1000000).bind fun t331 => (some t331)) else (some false))) = some r := h
 clear h
 replace H := Option.bind_eq_some_iff.mp H
 obtain ⟨t330, A20, H⟩ := H
 replace H : (if t330 = true then ((swashplateref01_From.f a0_1 a0_0 1000000).bind fun t331 => (some t331)) else (some false)) = some r := H
 have A2 := Aside0.mk A20
 clear A20
 by_cases c3 : t330 = true
 ·
  subst c3
  have H1 : ((swashplateref01_From.f a0_1 a0_0 1000000).bind fun t331 => (some t331)) = some r := by rw [if_pos rfl] at H; exact H
  clear H
  have H := H1
  clear H1
  replace H := Option.bind_eq_some_iff.mp H
  obtain ⟨t331, A40, H⟩ := H
  replace H : (some t331) = some r := H
  have A4 := Aside0.mk A40
  clear A40
  obtain rfl := Option.some.inj H
  go_enter Try.func40, Try.ntmps40
  go_wp2_with (first | ((with_reducible refine gate_dst (N := 1) rfl ?_); refine box_event ?hg (N := 1) ?hd (cs := #[.int .i64 a0_0, .int .i64 a0_1]) (t := 27) ?hr ?_; (case hd => rfl); (case hg => rfl); (case hr => first | (go_simp; done) | (go_simp; rfl)); intro gb329 hg w5 hbox hb; have n0_ := Aside0.mk (below_step (bl_ HB.out) hb); have n1_ := Aside0.mk (hbox); have n2_ := Aside0.mk (szl_ hg HB.out); have n3_ := Aside0.mk (szl_ hg HB.out); clear HB; have HB := n0_; have BK329 := n1_; have GW329 := n2_; have GE329 := n3_; clear n0_ n1_ n2_ n3_ hb hbox hg; have hcz6_0 : w5.cell? ⟨gb329, 0, none⟩ = some (.int .i64 a0_0) := (blk_cell BK329.out 0).trans rfl; have hcz6_1 : w5.cell? ⟨gb329, 1, none⟩ = some (.int .i64 a0_1) := (blk_cell BK329.out 1).trans rfl; have hfz6_0 := blk_frozen BK329.out 0; have hfz6_1 := blk_frozen BK329.out 1) | ((with_reducible refine gate_callee (f := 37) rfl ?_); refine goesL_ (some 5) rfl rfl Try.func37 (by kernel_rfl) rfl #[.int .i64 a0_0, .int .i64 (-1000000), .int .i64 1000000] rfl (by (try simp only [List.map_toArray, List.map_cons, List.map_nil]); first | done | rfl | (simp only [List.length_drop, List.length_take]; rfl)) ?_; (with_reducible refine (swashplateref01_From.calls a0_0 (-1000000) 1000000 true _ A2.out).mono ?_); rintro e w' ⟨rfl, ⟨nd, rfl⟩⟩; refine ⟨_, rfl, ?_⟩) | (go_at_call 37; (with_reducible refine (swashplateref01_From.calls a0_1 a0_0 1000000 t331 _ A4.out).mono ?_); rintro e w' ⟨rfl, ⟨nd, rfl⟩⟩))
  go_ret
  exact ⟨by first | rfl | (simp [errW_none, errW_some] <;> rfl) | (simp [*, errW_none, errW_some] <;> rfl), bl_ HB.out⟩
 ·
  replace c3 := Bool.eq_false_iff.mpr c3
  subst c3
  have H1 : (some false) = some r := by rw [if_neg (show ¬ (false = true) by decide)] at H; exact H
  clear H
  have H := H1
  clear H1
  obtain rfl := Option.some.inj H
  go_enter Try.func40, Try.ntmps40
  go_wp2_with (first | ((with_reducible refine gate_dst (N := 1) rfl ?_); refine box_event ?hg (N := 1) ?hd (cs := #[.int .i64 a0_0, .int .i64 a0_1]) (t := 27) ?hr ?_; (case hd => rfl); (case hg => rfl); (case hr => first | (go_simp; done) | (go_simp; rfl)); intro gb329 hg w7 hbox hb; have n0_ := Aside0.mk (below_step (bl_ HB.out) hb); have n1_ := Aside0.mk (hbox); have n2_ := Aside0.mk (szl_ hg HB.out); have n3_ := Aside0.mk (szl_ hg HB.out); clear HB; have HB := n0_; have BK329 := n1_; have GW329 := n2_; have GE329 := n3_; clear n0_ n1_ n2_ n3_ hb hbox hg; have hcz8_0 : w7.cell? ⟨gb329, 0, none⟩ = some (.int .i64 a0_0) := (blk_cell BK329.out 0).trans rfl; have hcz8_1 : w7.cell? ⟨gb329, 1, none⟩ = some (.int .i64 a0_1) := (blk_cell BK329.out 1).trans rfl; have hfz8_0 := blk_frozen BK329.out 0; have hfz8_1 := blk_frozen BK329.out 1) | ((with_reducible refine gate_callee (f := 37) rfl ?_); refine goesL_ (some 5) rfl rfl Try.func37 (by kernel_rfl) rfl #[.int .i64 a0_0, .int .i64 (-1000000), .int .i64 1000000] rfl (by (try simp only [List.map_toArray, List.map_cons, List.map_nil]); first | done | rfl | (simp only [List.length_drop, List.length_take]; rfl)) ?_; (with_reducible refine (swashplateref01_From.calls a0_0 (-1000000) 1000000 false _ A2.out).mono ?_); rintro e w' ⟨rfl, ⟨nd, rfl⟩⟩; refine ⟨_, rfl, ?_⟩))
  go_ret
  exact ⟨by first | rfl | (simp [errW_none, errW_some] <;> rfl) | (simp [*, errW_none, errW_some] <;> rfl), bl_ HB.out⟩
end Go.Proofs.Yteodlmgmmpkpoaa.PS
end
section
namespace Go.Proofs.Yteodlmgmmpkpoaa.PS
open Go.RowKit Go.Proofs.YteodlmgmmpkpoaaW.PrintWords Go.Proofs.YteodlmgmmpkpoaaW.PrintLast Go.Proofs.YteodlmgmmpkpoaaW.PrintMore
attribute [local go_sem] max2_int min2_int max_two min_two max_three min_three max_four min_four   -- for this text's walks alone
set_option linter.unusedVariables false
set_option linter.unusedSimpArgs false
def swashplateref01_Copy.l0 : Nat → Int → List Int → List Int → List (List Int) → List Int → List Int → List (List Int) → Option (List Int × List Int × (List (List Int)))
 | 0, _, _, _, _, _, _, _ => none
 | k + 1, x4, x299000, x299001, x299002, x313000, x313001, x313002 => if x4 < (x299002.length : Int) then ((some (([] : List Int) : List Int)).bind fun y313 => (if 0 ≤ x4 then (if y313.length + (rd_L3 x299002 x4).length < 17592186044416 then (if x313002.length < 5864062014805 then (swashplateref01_Copy.l0 k (wrap64 (x4 + 1)) x299000 x299001 x299002 x313000 x313001 (x313002 ++ [(y313 ++ (rd_L3 x299002 x4))])) else (none)) else (none)) else (none))) else (some (x313000, x313001, x313002))
def swashplateref01_Copy.f (k : Nat) (l0_0 : List Int) (l0_1 : List Int) (l0_2 : List (List Int)) : Option (List Int × List Int × (List (List Int))) := (some (([] : List Int) : List Int)).bind fun y300 => (if y300.length + l0_0.length < 17592186044416 then ((some (([] : List Int) : List Int)).bind fun y306 => (if y306.length + l0_1.length < 17592186044416 then (swashplateref01_Copy.l0 k 0 l0_0 l0_1 l0_2 (y300 ++ l0_0) (y306 ++ l0_1) ([] : List (List Int))) else (none))) else (none))
def swashplateref01_Copy.T1 : Bool × List (List Nat × List Nat) := (true, [([], []), ([], []), ([1], [1]), ([0, 2], [0, 2]), ([], []), ([], []), ([5], [5]), ([4, 6, 3], [4, 6]), ([3, 7], [3, 7]), ([], []), ([9, 8, 7, 0, 1, 2, 3, 4, 5, 6, 7, 8, 9], [8, 9])])
def swashplateref01_Copy.B1 : List Nat := [0, 0, 2, 7, 0, 0, 32, 127, 255, 0, 1023]
theorem swashplateref01_Copy.tab1 : rtab .any (opsOf Try.f24 1) = swashplateref01_Copy.T1 := by kernel_rfl
theorem swashplateref01_Copy.bits1 : waitsOk swashplateref01_Copy.T1.2 swashplateref01_Copy.B1 = true := by kernel_rfl
def swashplateref01_Copy.T5 : Bool × List (List Nat × List Nat) := (true, [([], []), ([0], [0]), ([], []), ([], []), ([3], [3]), ([], []), ([4, 5], [4, 5]), ([6], [6]), ([2, 7], [2, 7]), ([8], [8]), ([1, 9, 8], [1, 9]), ([0, 1, 2, 3, 4, 5, 6, 7, 8, 9, 10], []), ([11, 10, 10, 0, 1, 2, 3, 4, 5, 6, 7, 8, 9, 10], [10, 11])])
def swashplateref01_Copy.B5 : List Nat := [0, 1, 0, 0, 8, 0, 56, 120, 252, 508, 1023, 2047, 4095]
theorem swashplateref01_Copy.tab5 : rtab .any (opsOf Try.f24 5) = swashplateref01_Copy.T5 := by kernel_rfl
theorem swashplateref01_Copy.bits5 : waitsOk swashplateref01_Copy.T5.2 swashplateref01_Copy.B5 = true := by kernel_rfl
set_option maxHeartbeats 8000000 in
set_option maxRecDepth 100000 in
theorem swashplateref01_Copy.calls (k : Nat) (A0_0 : Option Addr) (c0_0 : Nat) (l0_0 : List Int) (A0_1 : Option Addr) (c0_1 : Nat) (l0_1 : List Int) (A0_2 : Option Addr) (c0_2 : Nat) (l0_2 : List (List Int)) (r1 : List Int) (r2 : List Int) (r3 : List (List Int)) (w : World) (hr0_0 : Kd.C (Kd.int .i64) w A0_0 l0_0.length l0_0) (hc0_0 : l0_0.length ≤ c0_0) (hr0_1 : Kd.C (Kd.int .i64) w A0_1 l0_1.length l0_1) (hc0_1 : l0_1.length ≤ c0_1) (hr0_2 : Kd.C (Kd.slice 3 (Kd.int .i64)) w A0_2 l0_2.length l0_2) (hc0_2 : l0_2.length ≤ c0_2) (h : swashplateref01_Copy.f k l0_0 l0_1 l0_2 = some (r1, r2, r3)) :
  Calls Try.prog 24 #[.agg #[.slice A0_0 l0_0.length c0_0, .slice A0_1 l0_1.length c0_1, .slice A0_2 l0_2.length c0_2]] w fun e w' => ∃ v0_ v1_ v2_ : Value, e = .returned (.agg #[v0_, v1_, v2_]) ∧ Kd.R (Kd.int .i64) 3 w' w.heap.size (fun k_ => some k_ ≠ (v1_ : Value).ownBlock) v0_ r1 ∧ Kd.R (Kd.int .i64) 3 w' w.heap.size (fun k_ => some k_ ≠ (v0_ : Value).ownBlock) v1_ r2 ∧ Kd.S (Kd.slice 3 (Kd.int .i64)) 22 w' w.heap.size (fun k_ => some k_ ≠ (v0_ : Value).ownBlock ∧ some k_ ≠ (v1_ : Value).ownBlock) v2_ r3 ∧ Below w.heap.size w w' := by
 have hu25 := Try.underlying25
 have HR0_0 := Aside0.mk hr0_0
 have HC0_0 := Aside0.mk hc0_0
 clear hr0_0 hc0_0
 have HR0_1 := Aside0.mk hr0_1
 have HC0_1 := Aside0.mk hc0_1
 clear hr0_1 hc0_1
 have HR0_2 := Aside0.mk hr0_2
 have HC0_2 := Aside0.mk hc0_2
 clear hr0_2 hc0_2
 have HB := Aside0.mk (Below.refl w.heap.size w)
 have H : ((some (([] : List Int) : List Int)).bind fun y300 => (if y300.length + l0_0.length < 17592186044416 then ((some (([] : List Int) : List Int)).bind fun y306 => (if y306.length + l0_1.length < 17592186044416 then (swashplateref01_Copy.l0 k 0 l0_0 l0_1 l0_2 (y300 ++ l0_0) (y306 ++ l0_1) ([] : List (List Int))) else (none))) else (none))) = some (r1, r2, r3) := h
 clear h
 obtain ⟨y300, hy300⟩ : ∃ y_ : List Int, y_ = (([] : List Int)) := ⟨_, rfl⟩
 replace H : (if y300.length + l0_0.length < 17592186044416 then ((some (([] : List Int) : List Int)).bind fun y306 => (if y306.length + l0_1.length < 17592186044416 then (swashplateref01_Copy.l0 k 0 l0_0 l0_1 l0_2 (y300 ++ l0_0) (y306 ++ l0_1) ([] : List (List Int))) else (none))) else (none)) = some (r1, r2, r3) := by first | (rw [hy300]; with_reducible exact H) | (have H2_ := (Option.bind_some _ _).symm.trans H; rw [hy300]; with_reducible exact H2_) | (have H2_ := (Option.bind_some _ _).symm.trans H; with_reducible exact H2_) | with_reducible exact H | (rw [hy300]; exact H) | exact H
 have Ny300 := Aside0.mk hy300
 clear hy300
 by_cases c2 : y300.length + l0_0.length < 17592186044416
 ·
  rw [if_pos c2] at H
  have LMc2 := Aside0.mk c2
  clear c2
  obtain ⟨y303, hy303⟩ : ∃ y_ : List Int, y_ = (y300 ++ l0_0) := ⟨_, rfl⟩
  replace H : ((some (([] : List Int) : List Int)).bind fun y306 => (if y306.length + l0_1.length < 17592186044416 then (swashplateref01_Copy.l0 k 0 l0_0 l0_1 l0_2 y303 (y306 ++ l0_1) ([] : List (List Int))) else (none))) = some (r1, r2, r3) := by first | (rw [hy303]; with_reducible exact H) | (have H2_ := (Option.bind_some _ _).symm.trans H; rw [hy303]; with_reducible exact H2_) | (have H2_ := (Option.bind_some _ _).symm.trans H; with_reducible exact H2_) | with_reducible exact H | (rw [hy303]; exact H) | exact H
  have Ny303 := Aside0.mk hy303
  clear hy303
  obtain ⟨y306, hy306⟩ : ∃ y_ : List Int, y_ = (([] : List Int)) := ⟨_, rfl⟩
  replace H : (if y306.length + l0_1.length < 17592186044416 then (swashplateref01_Copy.l0 k 0 l0_0 l0_1 l0_2 y303 (y306 ++ l0_1) ([] : List (List Int))) else (none)) = some (r1, r2, r3) := by first | (rw [hy306]; with_reducible exact H) | (have H2_ := (Option.bind_some _ _).symm.trans H; rw [hy306]; with_reducible exact H2_) | (have H2_ := (Option.bind_some _ _).symm.trans H; with_reducible exact H2_) | with_reducible exact H | (rw [hy306]; exact H) | exact H
  have Ny306 := Aside0.mk hy306
  clear hy306
  by_cases c3 : y306.length + l0_1.length < 17592186044416
  ·
   rw [if_pos c3] at H
   have LMc3 := Aside0.mk c3
   clear c3
   obtain ⟨y309, hy309⟩ : ∃ y_ : List Int, y_ = (y306 ++ l0_1) := ⟨_, rfl⟩
   replace H : (swashplateref01_Copy.l0 k 0 l0_0 l0_1 l0_2 y303 y309 ([] : List (List Int))) = some (r1, r2, r3) := by first | (rw [hy309]; with_reducible exact H) | (have H2_ := (Option.bind_some _ _).symm.trans H; rw [hy309]; with_reducible exact H2_) | (have H2_ := (Option.bind_some _ _).symm.trans H; with_reducible exact H2_) | with_reducible exact H | (rw [hy309]; exact H) | exact H
   have Ny309 := Aside0.mk hy309
   clear hy309
   have H' := Aside0.mk H
   clear H
   go_enter Try.func24, Try.ntmps24
   try go_wp2_with (first | ((with_reducible refine gate_dst (N := 1) rfl ?_); refine box_event ?hg (N := 1) ?hd (cs := #[.slice A0_0 l0_0.length c0_0, .slice A0_1 l0_1.length c0_1, .slice A0_2 l0_2.length c0_2]) (t := 25) ?hr ?_; (case hd => rfl); (case hg => rfl); (case hr => first | (go_simp; done) | (go_simp; rfl)); intro gb298 hg w4 hbox hb; have n0_ := Aside0.mk (below_step (bl_ HB.out) hb); have n1_ := Aside0.mk (hbox); have n2_ := Aside0.mk (szl_ hg HB.out); have n3_ := Aside0.mk (szl_ hg HB.out); clear HB; have HB := n0_; have BK298 := n1_; have GW298 := n2_; have GE298 := n3_; clear n0_ n1_ n2_ n3_ hb hbox hg) | ((with_reducible refine gate_dst (N := 2) rfl ?_); refine box_event ?hg (N := 2) ?hd (cs := #[.slice none 0 0, .slice none 0 0, .slice none 0 0]) (t := 25) ?hr ?_; (case hd => rfl); (case hg => rfl); (case hr => first | (go_simp; done) | (go_simp; rfl)); intro gb299 hg w5 hbox hb; have n0_ := Aside0.mk (blk_below (bk_ BK298.out) hb); have n1_ := Aside0.mk (below_step (bl_ HB.out) hb); have n2_ := Aside0.mk (hbox); have n3_ := Aside0.mk (szl_ hg HB.out); have n4_ := Aside0.mk (szl_ hg HB.out); have n5_ := Aside0.mk (nel_ hg BK298.out); have n6_ := Aside0.mk (ner_ hg BK298.out); clear BK298 HB; have BK298 := n0_; have HB := n1_; have BK299 := n2_; have GW299 := n3_; have GE299 := n4_; have NB298_299 := n5_; have NB299_298 := n6_; clear n0_ n1_ n2_ n3_ n4_ n5_ n6_ hb hbox hg))
   have n0_ := Aside0.mk (blk_drew BK298.out)
   have n1_ := Aside0.mk (blk_drew BK299.out)
   have n2_ := Aside0.mk (below_drew1 HB.out)
   clear BK298 BK299 HB
   have BK298 := n0_
   have BK299 := n1_
   have HB := n2_
   clear n0_ n1_ n2_
   refine start_ (n := 11) (S := fun w' => w'.cell? ⟨gb298, 0, none⟩ = some (.slice A0_0 l0_0.length c0_0) ∧ w'.cell? ⟨gb298, 1, none⟩ = some (.slice A0_1 l0_1.length c0_1) ∧ w'.cell? ⟨gb298, 2, none⟩ = some (.slice A0_2 l0_2.length c0_2)) (ds := []) #[false, false, false, false, false, false, false, false, false, false, false] (by kernel_rfl) rfl rfl ⟨(blk_cell BK298.out 0).trans rfl, (blk_cell BK298.out 1).trans rfl, (blk_cell BK298.out 2).trans rfl⟩ (fun hHeld => ?_); refine with_tabW swashplateref01_Copy.tab1 swashplateref01_Copy.bits1 (fun HT_ HW_ => ?_)
   generalize w5.drew = w6 at BK298 BK299 HB hHeld ⊢
   refine pure_ (i := 1) (N := some 6) (v := ?_) (a' := ?_) #[false, true, false, false, false, false, false, false, false, false, false] rfl rfl (any_of HT_.out (by kernel_rfl)) (fun _ _ _ h => h) (Or.inl ⟨by rfl, ?_⟩) ?_ ?_
   rotate_left
   ·
    intro w'
    go_simp
    with_reducible rfl
   rotate_left
   ·
    simp only [Act.put, List.setIfInBounds_toArray, List.set_cons_zero, List.set_cons_succ, i64_w, i32_w]
    rfl
   refine pure_ (i := 5) (N := some 10) (v := ?_) (a' := ?_) #[false, true, false, false, false, true, false, false, false, false, false] rfl rfl (any_of HT_.out (by kernel_rfl)) (fun _ _ _ h => h) (Or.inl ⟨by rfl, ?_⟩) ?_ ?_
   rotate_left
   ·
    intro w'
    go_simp
    with_reducible rfl
   rotate_left
   ·
    simp only [Act.put, List.setIfInBounds_toArray, List.set_cons_zero, List.set_cons_succ, i64_w, i32_w]
    rfl
   refine take_ (i := 2) (N := some 7) (v := ?_) (a' := ?_) #[false, true, true, false, false, true, false, false, false, false, false] rfl rfl (take_ofW HT_.out HW_.out (by kernel_rfl)) (fun _ _ _ h => h) (Or.inl ⟨by rfl, ?_⟩) hHeld ?_ ?_
   rotate_left
   ·
    rintro w' ⟨s0, s1, s2⟩
    go_simp
    with_reducible rfl
   rotate_left
   ·
    simp only [Act.put, List.setIfInBounds_toArray, List.set_cons_zero, List.set_cons_succ, i64_w, i32_w]
    rfl
   refine take_ (i := 6) (N := some 11) (v := ?_) (a' := ?_) #[false, true, true, false, false, true, true, false, false, false, false] rfl rfl (take_ofW HT_.out HW_.out (by kernel_rfl)) (fun _ _ _ h => h) (Or.inl ⟨by rfl, ?_⟩) hHeld ?_ ?_
   rotate_left
   ·
    rintro w' ⟨s0, s1, s2⟩
    go_simp
    with_reducible rfl
   rotate_left
   ·
    simp only [Act.put, List.setIfInBounds_toArray, List.set_cons_zero, List.set_cons_succ, i64_w, i32_w]
    rfl
   refine join_ (σ := Value × Value × Value × Value × Nat) 1 #[true, true, true, true, true, true, true, true, true, true, false] (fun s_ => [(5, s_.1), (8, s_.2.1), (9, s_.2.2.1), (12, s_.2.2.2.1), (3, .pointer (some ⟨s_.2.2.2.2, 0, none⟩)), (13, .agg #[s_.2.1, s_.2.2.2.1, .slice none 0 0])]) (fun s_ w' => (w'.cell? ⟨gb298, 0, none⟩ = some (.slice A0_0 l0_0.length c0_0) ∧ w'.cell? ⟨gb298, 1, none⟩ = some (.slice A0_1 l0_1.length c0_1) ∧ w'.cell? ⟨gb298, 2, none⟩ = some (.slice A0_2 l0_2.length c0_2)) ∧ (Kd.R (Kd.int .i64) 3 w' w.heap.size (fun k_ => some k_ ≠ (s_.2.2.2.1 : Value).ownBlock) s_.2.1 y303) ∧ (Kd.R (Kd.int .i64) 3 w' w.heap.size (fun k_ => some k_ ≠ (s_.2.1 : Value).ownBlock) s_.2.2.2.1 y309) ∧ (w'.heap[gb298]? = some (.cells #[.slice A0_0 l0_0.length c0_0, .slice A0_1 l0_1.length c0_1, .slice A0_2 l0_2.length c0_2] 25 (0, 0))) ∧ (w'.heap[gb299]? = some (.cells #[.slice none 0 0, .slice none 0 0, .slice none 0 0] 25 (0, 0))) ∧ (w'.heap[s_.2.2.2.2]? = some (.cells #[.slice none 0 0, .slice none 0 0, .slice none 0 0] 25 (0, 0))) ∧ (w.heap.size ≤ s_.2.2.2.2) ∧ (w.heap.size ≤ s_.2.2.2.2) ∧ (gb298 ≠ s_.2.2.2.2) ∧ (s_.2.2.2.2 ≠ gb298) ∧ (gb299 ≠ s_.2.2.2.2) ∧ (s_.2.2.2.2 ≠ gb299) ∧ (Below w.heap.size w w')) ?_ ?_
   rotate_left
   ·
    intro hJ0_3_4_7_9
    refine join_ (σ := Value × Value × Value × Value) 2 #[true, true, true, true, true, true, true, true, true, false, false] (fun s_ => [(5, s_.1), (8, s_.2.1), (9, s_.2.2.1), (12, s_.2.2.2), (13, .agg #[s_.2.1, s_.2.2.2, .slice none 0 0])]) (fun s_ w' => (w'.cell? ⟨gb298, 0, none⟩ = some (.slice A0_0 l0_0.length c0_0) ∧ w'.cell? ⟨gb298, 1, none⟩ = some (.slice A0_1 l0_1.length c0_1) ∧ w'.cell? ⟨gb298, 2, none⟩ = some (.slice A0_2 l0_2.length c0_2)) ∧ (Kd.R (Kd.int .i64) 3 w' w.heap.size (fun k_ => some k_ ≠ (s_.2.2.2 : Value).ownBlock) s_.2.1 y303) ∧ (Kd.R (Kd.int .i64) 3 w' w.heap.size (fun k_ => some k_ ≠ (s_.2.1 : Value).ownBlock) s_.2.2.2 y309) ∧ (w'.heap[gb298]? = some (.cells #[.slice A0_0 l0_0.length c0_0, .slice A0_1 l0_1.length c0_1, .slice A0_2 l0_2.length c0_2] 25 (0, 0))) ∧ (w'.heap[gb299]? = some (.cells #[.slice none 0 0, .slice none 0 0, .slice none 0 0] 25 (0, 0))) ∧ (Below w.heap.size w w')) ?_ ?_
    rotate_left
    ·
     intro hJ0_3_4_7
     refine join_ (σ := Value × Value × Value × Nat) 3 #[true, true, true, true, true, true, true, false, false, true, false] (fun s_ => [(5, s_.1), (8, s_.2.1), (9, s_.2.2.1), (3, .pointer (some ⟨s_.2.2.2, 0, none⟩))]) (fun s_ w' => (w'.cell? ⟨gb298, 0, none⟩ = some (.slice A0_0 l0_0.length c0_0) ∧ w'.cell? ⟨gb298, 1, none⟩ = some (.slice A0_1 l0_1.length c0_1) ∧ w'.cell? ⟨gb298, 2, none⟩ = some (.slice A0_2 l0_2.length c0_2)) ∧ (Kd.R (Kd.int .i64) 3 w' w.heap.size (fun k_ => some k_ ≠ (s_.2.2.1 : Value).ownBlock) s_.2.1 y303) ∧ (Kd.R (Kd.int .i64) 3 w' w.heap.size (fun k_ => some k_ ≠ (s_.2.1 : Value).ownBlock) s_.2.2.1 y306) ∧ (w'.heap[gb298]? = some (.cells #[.slice A0_0 l0_0.length c0_0, .slice A0_1 l0_1.length c0_1, .slice A0_2 l0_2.length c0_2] 25 (0, 0))) ∧ (w'.heap[gb299]? = some (.cells #[.slice none 0 0, .slice none 0 0, .slice none 0 0] 25 (0, 0))) ∧ (w'.heap[s_.2.2.2]? = some (.cells #[.slice none 0 0, .slice none 0 0, .slice none 0 0] 25 (0, 0))) ∧ (w.heap.size ≤ s_.2.2.2) ∧ (w.heap.size ≤ s_.2.2.2) ∧ (gb298 ≠ s_.2.2.2) ∧ (s_.2.2.2 ≠ gb298) ∧ (gb299 ≠ s_.2.2.2) ∧ (s_.2.2.2 ≠ gb299) ∧ (Below w.heap.size w w')) ?_ ?_
     rotate_left
     ·
      intro hJ0_3_4_9
      refine join_ (σ := Value × Value × Value) 4 #[true, true, true, true, true, true, true, false, false, false, false] (fun s_ => [(5, s_.1), (8, s_.2.1), (9, s_.2.2)]) (fun s_ w' => (w'.cell? ⟨gb298, 0, none⟩ = some (.slice A0_0 l0_0.length c0_0) ∧ w'.cell? ⟨gb298, 1, none⟩ = some (.slice A0_1 l0_1.length c0_1) ∧ w'.cell? ⟨gb298, 2, none⟩ = some (.slice A0_2 l0_2.length c0_2)) ∧ (Kd.R (Kd.int .i64) 3 w' w.heap.size (fun k_ => some k_ ≠ (s_.2.2 : Value).ownBlock) s_.2.1 y303) ∧ (Kd.R (Kd.int .i64) 3 w' w.heap.size (fun k_ => some k_ ≠ (s_.2.1 : Value).ownBlock) s_.2.2 y306) ∧ (w'.heap[gb298]? = some (.cells #[.slice A0_0 l0_0.length c0_0, .slice A0_1 l0_1.length c0_1, .slice A0_2 l0_2.length c0_2] 25 (0, 0))) ∧ (w'.heap[gb299]? = some (.cells #[.slice none 0 0, .slice none 0 0, .slice none 0 0] 25 (0, 0))) ∧ (Below w.heap.size w w')) ?_ ?_
      rotate_left
      ·
       intro hJ0_3_4
       refine join_ (σ := Value × Value × Nat) 4 #[true, true, true, true, false, true, true, false, false, true, false] (fun s_ => [(5, s_.1), (8, s_.2.1), (3, .pointer (some ⟨s_.2.2, 0, none⟩))]) (fun s_ w' => (w'.cell? ⟨gb298, 0, none⟩ = some (.slice A0_0 l0_0.length c0_0) ∧ w'.cell? ⟨gb298, 1, none⟩ = some (.slice A0_1 l0_1.length c0_1) ∧ w'.cell? ⟨gb298, 2, none⟩ = some (.slice A0_2 l0_2.length c0_2)) ∧ (Kd.R (Kd.int .i64) 3 w' w.heap.size (fun _ => True) s_.2.1 y303) ∧ (w'.heap[gb298]? = some (.cells #[.slice A0_0 l0_0.length c0_0, .slice A0_1 l0_1.length c0_1, .slice A0_2 l0_2.length c0_2] 25 (0, 0))) ∧ (w'.heap[gb299]? = some (.cells #[.slice none 0 0, .slice none 0 0, .slice none 0 0] 25 (0, 0))) ∧ (w'.heap[s_.2.2]? = some (.cells #[.slice none 0 0, .slice none 0 0, .slice none 0 0] 25 (0, 0))) ∧ (w.heap.size ≤ s_.2.2) ∧ (w.heap.size ≤ s_.2.2) ∧ (gb298 ≠ s_.2.2) ∧ (s_.2.2 ≠ gb298) ∧ (gb299 ≠ s_.2.2) ∧ (s_.2.2 ≠ gb299) ∧ (Below w.heap.size w w')) ?_ ?_
       rotate_left
       ·
        intro hJ0_3_9
        refine join_ (σ := Value × Value × Nat) 4 #[true, true, true, false, true, true, true, false, false, true, false] (fun s_ => [(5, s_.1), (9, s_.2.1), (3, .pointer (some ⟨s_.2.2, 0, none⟩))]) (fun s_ w' => (w'.cell? ⟨gb298, 0, none⟩ = some (.slice A0_0 l0_0.length c0_0) ∧ w'.cell? ⟨gb298, 1, none⟩ = some (.slice A0_1 l0_1.length c0_1) ∧ w'.cell? ⟨gb298, 2, none⟩ = some (.slice A0_2 l0_2.length c0_2)) ∧ (Kd.R (Kd.int .i64) 3 w' w.heap.size (fun k_ => some k_ ≠ (s_.2.1 : Value).ownBlock) s_.1 y300) ∧ (Kd.R (Kd.int .i64) 3 w' w.heap.size (fun k_ => some k_ ≠ (s_.1 : Value).ownBlock) s_.2.1 y306) ∧ (w'.heap[gb298]? = some (.cells #[.slice A0_0 l0_0.length c0_0, .slice A0_1 l0_1.length c0_1, .slice A0_2 l0_2.length c0_2] 25 (0, 0))) ∧ (w'.heap[gb299]? = some (.cells #[.slice none 0 0, .slice none 0 0, .slice none 0 0] 25 (0, 0))) ∧ (w'.heap[s_.2.2]? = some (.cells #[.slice none 0 0, .slice none 0 0, .slice none 0 0] 25 (0, 0))) ∧ (w.heap.size ≤ s_.2.2) ∧ (w.heap.size ≤ s_.2.2) ∧ (gb298 ≠ s_.2.2) ∧ (s_.2.2 ≠ gb298) ∧ (gb299 ≠ s_.2.2) ∧ (s_.2.2 ≠ gb299) ∧ (Below w.heap.size w w')) ?_ ?_
        rotate_left
        ·
         intro hJ0_4_9
         refine join_ (σ := Value × Value) 5 #[true, true, true, true, false, true, true, false, false, false, false] (fun s_ => [(5, s_.1), (8, s_.2)]) (fun s_ w' => (w'.cell? ⟨gb298, 0, none⟩ = some (.slice A0_0 l0_0.length c0_0) ∧ w'.cell? ⟨gb298, 1, none⟩ = some (.slice A0_1 l0_1.length c0_1) ∧ w'.cell? ⟨gb298, 2, none⟩ = some (.slice A0_2 l0_2.length c0_2)) ∧ (Kd.R (Kd.int .i64) 3 w' w.heap.size (fun _ => True) s_.2 y303) ∧ (w'.heap[gb298]? = some (.cells #[.slice A0_0 l0_0.length c0_0, .slice A0_1 l0_1.length c0_1, .slice A0_2 l0_2.length c0_2] 25 (0, 0))) ∧ (w'.heap[gb299]? = some (.cells #[.slice none 0 0, .slice none 0 0, .slice none 0 0] 25 (0, 0))) ∧ (Below w.heap.size w w')) ?_ ?_
         rotate_left
         ·
          intro hJ0_3
          refine join_ (σ := Value × Value) 5 #[true, true, true, false, true, true, true, false, false, false, false] (fun s_ => [(5, s_.1), (9, s_.2)]) (fun s_ w' => (w'.cell? ⟨gb298, 0, none⟩ = some (.slice A0_0 l0_0.length c0_0) ∧ w'.cell? ⟨gb298, 1, none⟩ = some (.slice A0_1 l0_1.length c0_1) ∧ w'.cell? ⟨gb298, 2, none⟩ = some (.slice A0_2 l0_2.length c0_2)) ∧ (Kd.R (Kd.int .i64) 3 w' w.heap.size (fun k_ => some k_ ≠ (s_.2 : Value).ownBlock) s_.1 y300) ∧ (Kd.R (Kd.int .i64) 3 w' w.heap.size (fun k_ => some k_ ≠ (s_.1 : Value).ownBlock) s_.2 y306) ∧ (w'.heap[gb298]? = some (.cells #[.slice A0_0 l0_0.length c0_0, .slice A0_1 l0_1.length c0_1, .slice A0_2 l0_2.length c0_2] 25 (0, 0))) ∧ (w'.heap[gb299]? = some (.cells #[.slice none 0 0, .slice none 0 0, .slice none 0 0] 25 (0, 0))) ∧ (Below w.heap.size w w')) ?_ ?_
          rotate_left
          ·
           intro hJ0_4
           refine join_ (σ := Value × Nat) 5 #[true, true, true, false, false, true, true, false, false, true, false] (fun s_ => [(5, s_.1), (3, .pointer (some ⟨s_.2, 0, none⟩))]) (fun s_ w' => (w'.cell? ⟨gb298, 0, none⟩ = some (.slice A0_0 l0_0.length c0_0) ∧ w'.cell? ⟨gb298, 1, none⟩ = some (.slice A0_1 l0_1.length c0_1) ∧ w'.cell? ⟨gb298, 2, none⟩ = some (.slice A0_2 l0_2.length c0_2)) ∧ (Kd.R (Kd.int .i64) 3 w' w.heap.size (fun _ => True) s_.1 y300) ∧ (w'.heap[gb298]? = some (.cells #[.slice A0_0 l0_0.length c0_0, .slice A0_1 l0_1.length c0_1, .slice A0_2 l0_2.length c0_2] 25 (0, 0))) ∧ (w'.heap[gb299]? = some (.cells #[.slice none 0 0, .slice none 0 0, .slice none 0 0] 25 (0, 0))) ∧ (w'.heap[s_.2]? = some (.cells #[.slice none 0 0, .slice none 0 0, .slice none 0 0] 25 (0, 0))) ∧ (w.heap.size ≤ s_.2) ∧ (w.heap.size ≤ s_.2) ∧ (gb298 ≠ s_.2) ∧ (s_.2 ≠ gb298) ∧ (gb299 ≠ s_.2) ∧ (s_.2 ≠ gb299) ∧ (Below w.heap.size w w')) ?_ ?_
           rotate_left
           ·
            intro hJ0_9
            refine join_ (σ := Value × Nat) 5 #[false, true, true, false, true, true, true, false, false, true, false] (fun s_ => [(9, s_.1), (3, .pointer (some ⟨s_.2, 0, none⟩))]) (fun s_ w' => (w'.cell? ⟨gb298, 0, none⟩ = some (.slice A0_0 l0_0.length c0_0) ∧ w'.cell? ⟨gb298, 1, none⟩ = some (.slice A0_1 l0_1.length c0_1) ∧ w'.cell? ⟨gb298, 2, none⟩ = some (.slice A0_2 l0_2.length c0_2)) ∧ (Kd.R (Kd.int .i64) 3 w' w.heap.size (fun _ => True) s_.1 y306) ∧ (w'.heap[gb298]? = some (.cells #[.slice A0_0 l0_0.length c0_0, .slice A0_1 l0_1.length c0_1, .slice A0_2 l0_2.length c0_2] 25 (0, 0))) ∧ (w'.heap[gb299]? = some (.cells #[.slice none 0 0, .slice none 0 0, .slice none 0 0] 25 (0, 0))) ∧ (w'.heap[s_.2]? = some (.cells #[.slice none 0 0, .slice none 0 0, .slice none 0 0] 25 (0, 0))) ∧ (w.heap.size ≤ s_.2) ∧ (w.heap.size ≤ s_.2) ∧ (gb298 ≠ s_.2) ∧ (s_.2 ≠ gb298) ∧ (gb299 ≠ s_.2) ∧ (s_.2 ≠ gb299) ∧ (Below w.heap.size w w')) ?_ ?_
            rotate_left
            ·
             intro hJ4_9
             refine join_ (σ := Value) 6 #[true, true, true, false, false, true, true, false, false, false, false] (fun s_ => [(5, s_)]) (fun s_ w' => (w'.cell? ⟨gb298, 0, none⟩ = some (.slice A0_0 l0_0.length c0_0) ∧ w'.cell? ⟨gb298, 1, none⟩ = some (.slice A0_1 l0_1.length c0_1) ∧ w'.cell? ⟨gb298, 2, none⟩ = some (.slice A0_2 l0_2.length c0_2)) ∧ (Kd.R (Kd.int .i64) 3 w' w.heap.size (fun _ => True) s_ y300) ∧ (w'.heap[gb298]? = some (.cells #[.slice A0_0 l0_0.length c0_0, .slice A0_1 l0_1.length c0_1, .slice A0_2 l0_2.length c0_2] 25 (0, 0))) ∧ (w'.heap[gb299]? = some (.cells #[.slice none 0 0, .slice none 0 0, .slice none 0 0] 25 (0, 0))) ∧ (Below w.heap.size w w')) ?_ ?_
             rotate_left
             ·
              intro hJ0
              refine join_ (σ := Value) 6 #[false, true, true, false, true, true, true, false, false, false, false] (fun s_ => [(9, s_)]) (fun s_ w' => (w'.cell? ⟨gb298, 0, none⟩ = some (.slice A0_0 l0_0.length c0_0) ∧ w'.cell? ⟨gb298, 1, none⟩ = some (.slice A0_1 l0_1.length c0_1) ∧ w'.cell? ⟨gb298, 2, none⟩ = some (.slice A0_2 l0_2.length c0_2)) ∧ (Kd.R (Kd.int .i64) 3 w' w.heap.size (fun _ => True) s_ y306) ∧ (w'.heap[gb298]? = some (.cells #[.slice A0_0 l0_0.length c0_0, .slice A0_1 l0_1.length c0_1, .slice A0_2 l0_2.length c0_2] 25 (0, 0))) ∧ (w'.heap[gb299]? = some (.cells #[.slice none 0 0, .slice none 0 0, .slice none 0 0] 25 (0, 0))) ∧ (Below w.heap.size w w')) ?_ ?_
              rotate_left
              ·
               intro hJ4
               refine join_ (σ := Nat) 6 #[false, true, true, false, false, true, true, false, false, true, false] (fun s_ => [(3, .pointer (some ⟨s_, 0, none⟩))]) (fun s_ w' => (w'.cell? ⟨gb298, 0, none⟩ = some (.slice A0_0 l0_0.length c0_0) ∧ w'.cell? ⟨gb298, 1, none⟩ = some (.slice A0_1 l0_1.length c0_1) ∧ w'.cell? ⟨gb298, 2, none⟩ = some (.slice A0_2 l0_2.length c0_2)) ∧ (w'.heap[gb298]? = some (.cells #[.slice A0_0 l0_0.length c0_0, .slice A0_1 l0_1.length c0_1, .slice A0_2 l0_2.length c0_2] 25 (0, 0))) ∧ (w'.heap[gb299]? = some (.cells #[.slice none 0 0, .slice none 0 0, .slice none 0 0] 25 (0, 0))) ∧ (w'.heap[s_]? = some (.cells #[.slice none 0 0, .slice none 0 0, .slice none 0 0] 25 (0, 0))) ∧ (w.heap.size ≤ s_) ∧ (w.heap.size ≤ s_) ∧ (gb298 ≠ s_) ∧ (s_ ≠ gb298) ∧ (gb299 ≠ s_) ∧ (s_ ≠ gb299) ∧ (Below w.heap.size w w')) ?_ ?_
               rotate_left
               ·
                intro hJ9
                refine three_ (i := 0) (j := 4) (k := 9) (Ni := some 5) (Nj := some 9) (Nk := some 3) #[true, true, true, false, false, true, true, false, false, false, false] #[false, true, true, false, true, true, true, false, false, false, false] #[false, true, true, false, false, true, true, false, false, true, false] rfl rfl rfl rfl rfl rfl (three_of HT_.out (by kernel_rfl)) (by decide) (by decide) (by decide) (fun K hK => ?_) (fun K hK => ?_) (fun K hK => ?_)
                ·
                 skip
                 refine Kd.R_lit_step (Kd.int .i64) _ 3 ?hg (N := 5) ?hd (xs := ([] : List Int)) (inner := []) (ok := fun _ => True) (okp := fun _ => True) ?hr ?hp (fun _ hk => hk) trivial (Below.refl _ _) (Nat.le_refl _) (by simp) ?_; (case hd => rfl); (case hg => rfl); (case hr => first | (go_simp; done) | (go_simp; rfl)); (case hp => exact (Reps.none _ _))
                 intro v301 w7 ho8 hb hg_ hnew_
                 clear hg_ hnew_
                 (first | rw [← Ny300.out] at ho8 | (simp only [Int.reduceToNat] at ho8; rw [← Ny300.out] at ho8))
                 have n0_ := Aside0.mk (Kd.R_lower ho8 (below_size (bl_ HB.out)))
                 have n1_ := Aside0.mk (blk_below (bk_ BK298.out) hb)
                 have n2_ := Aside0.mk (blk_below (bk_ BK299.out) hb)
                 have n3_ := Aside0.mk (below_step (bl_ HB.out) hb)
                 clear BK298 BK299 HB
                 have HO302 := n0_
                 have BK298 := n1_
                 have BK299 := n2_
                 have HB := n3_
                 clear n0_ n1_ n2_ n3_ hb ho8
                 refine hK.out _ _ ⟨(blk_cell BK298.out 0).trans rfl, (blk_cell BK298.out 1).trans rfl, (blk_cell BK298.out 2).trans rfl⟩ (fun hHeld => ?_)
                 clear hK K
                 refine norm_ (a' := ?_) ?_ ?_
                 rotate_left
                 ·
                  show Act.put _ (some 5) _ = _
                  simp only [Act.put, List.setIfInBounds_toArray, List.set_cons_zero, List.set_cons_succ, i64_w, i32_w]
                  rfl
                 exact norm_ (by first | (simp only [putAll, Act.put, List.setIfInBounds_toArray, List.set_cons_zero, List.set_cons_succ]; done) | (simp only [putAll, Act.put, List.setIfInBounds_toArray, List.set_cons_zero, List.set_cons_succ]; rfl)) (hJ0 (v301) _ ⟨hHeld, (by (with_reducible repeat (first | apply Kd.R_alloc | apply Kd.R_drewN | apply Kd.R_drew)); exact HO302.out), (bk_ BK298.out), (bk_ BK299.out), (bl_ HB.out)⟩)
                ·
                 skip
                 refine Kd.R_lit_step (Kd.int .i64) _ 3 ?hg (N := 9) ?hd (xs := ([] : List Int)) (inner := []) (ok := fun _ => True) (okp := fun _ => True) ?hr ?hp (fun _ hk => hk) trivial (Below.refl _ _) (Nat.le_refl _) (by simp) ?_; (case hd => rfl); (case hg => rfl); (case hr => first | (go_simp; done) | (go_simp; rfl)); (case hp => exact (Reps.none _ _))
                 intro v307 w7 ho8 hb hg_ hnew_
                 clear hg_ hnew_
                 (first | rw [← Ny306.out] at ho8 | (simp only [Int.reduceToNat] at ho8; rw [← Ny306.out] at ho8))
                 have n0_ := Aside0.mk (Kd.R_lower ho8 (below_size (bl_ HB.out)))
                 have n1_ := Aside0.mk (blk_below (bk_ BK298.out) hb)
                 have n2_ := Aside0.mk (blk_below (bk_ BK299.out) hb)
                 have n3_ := Aside0.mk (below_step (bl_ HB.out) hb)
                 clear BK298 BK299 HB
                 have HO308 := n0_
                 have BK298 := n1_
                 have BK299 := n2_
                 have HB := n3_
                 clear n0_ n1_ n2_ n3_ hb ho8
                 refine hK.out _ _ ⟨(blk_cell BK298.out 0).trans rfl, (blk_cell BK298.out 1).trans rfl, (blk_cell BK298.out 2).trans rfl⟩ (fun hHeld => ?_)
                 clear hK K
                 refine norm_ (a' := ?_) ?_ ?_
                 rotate_left
                 ·
                  show Act.put _ (some 9) _ = _
                  simp only [Act.put, List.setIfInBounds_toArray, List.set_cons_zero, List.set_cons_succ, i64_w, i32_w]
                  rfl
                 exact norm_ (by first | (simp only [putAll, Act.put, List.setIfInBounds_toArray, List.set_cons_zero, List.set_cons_succ]; done) | (simp only [putAll, Act.put, List.setIfInBounds_toArray, List.set_cons_zero, List.set_cons_succ]; rfl)) (hJ4 (v307) _ ⟨hHeld, (by (with_reducible repeat (first | apply Kd.R_alloc | apply Kd.R_drewN | apply Kd.R_drew)); exact HO308.out), (bk_ BK298.out), (bk_ BK299.out), (bl_ HB.out)⟩)
                ·
                 skip
                 refine box_step ?hg (N := 3) ?hd (cs := #[.slice none 0 0, .slice none 0 0, .slice none 0 0]) (t := 25) ?hr ?_; (case hd => rfl); (case hg => rfl); (case hr => first | (go_simp; done) | (go_simp; rfl))
                 intro gb312 hg w7 hbox hb
                 have n0_ := Aside0.mk (blk_below (bk_ BK298.out) hb)
                 have n1_ := Aside0.mk (blk_below (bk_ BK299.out) hb)
                 have n2_ := Aside0.mk (below_step (bl_ HB.out) hb)
                 have n3_ := Aside0.mk (hbox)
                 have n4_ := Aside0.mk (szl_ hg HB.out)
                 have n5_ := Aside0.mk (szl_ hg HB.out)
                 have n6_ := Aside0.mk (nel_ hg BK298.out)
                 have n7_ := Aside0.mk (ner_ hg BK298.out)
                 have n8_ := Aside0.mk (nel_ hg BK299.out)
                 have n9_ := Aside0.mk (ner_ hg BK299.out)
                 clear BK298 BK299 HB
                 have BK298 := n0_
                 have BK299 := n1_
                 have HB := n2_
                 have BK312 := n3_
                 have GW312 := n4_
                 have GE312 := n5_
                 have NB298_312 := n6_
                 have NB312_298 := n7_
                 have NB299_312 := n8_
                 have NB312_299 := n9_
                 clear n0_ n1_ n2_ n3_ n4_ n5_ n6_ n7_ n8_ n9_ hb hbox hg
                 refine hK.out _ _ ⟨(blk_cell BK298.out 0).trans rfl, (blk_cell BK298.out 1).trans rfl, (blk_cell BK298.out 2).trans rfl⟩ (fun hHeld => ?_)
                 clear hK K
                 refine norm_ (a' := ?_) ?_ ?_
                 rotate_left
                 ·
                  show Act.put _ (some 3) _ = _
                  simp only [Act.put, List.setIfInBounds_toArray, List.set_cons_zero, List.set_cons_succ, i64_w, i32_w]
                  rfl
                 exact norm_ (by first | (simp only [putAll, Act.put, List.setIfInBounds_toArray, List.set_cons_zero, List.set_cons_succ]; done) | (simp only [putAll, Act.put, List.setIfInBounds_toArray, List.set_cons_zero, List.set_cons_succ]; rfl)) (hJ9 (gb312) _ ⟨hHeld, (bk_ BK298.out), (bk_ BK299.out), (bk_ BK312.out), GW312.out, GE312.out, NB298_312.out, NB312_298.out, NB299_312.out, NB312_299.out, (bl_ HB.out)⟩)
               ·
                skip
                rintro gb312 w8 ⟨hS_, h0_, h1_, h2_, h3_, h4_, h5_, h6_, h7_, h8_, h9_⟩
                have n0_ : Aside0 (w8.heap[gb298]? = some (.cells #[.slice A0_0 l0_0.length c0_0, .slice A0_1 l0_1.length c0_1, .slice A0_2 l0_2.length c0_2] 25 (0, 0))) := ⟨h0_⟩
                have n1_ : Aside0 (w8.heap[gb299]? = some (.cells #[.slice none 0 0, .slice none 0 0, .slice none 0 0] 25 (0, 0))) := ⟨h1_⟩
                have n2_ : Aside0 (w8.heap[gb312]? = some (.cells #[.slice none 0 0, .slice none 0 0, .slice none 0 0] 25 (0, 0))) := ⟨h2_⟩
                have n3_ : Aside0 (w.heap.size ≤ gb312) := ⟨h3_⟩
                have n4_ : Aside0 (w.heap.size ≤ gb312) := ⟨h4_⟩
                have n5_ : Aside0 (gb298 ≠ gb312) := ⟨h5_⟩
                have n6_ : Aside0 (gb312 ≠ gb298) := ⟨h6_⟩
                have n7_ : Aside0 (gb299 ≠ gb312) := ⟨h7_⟩
                have n8_ : Aside0 (gb312 ≠ gb299) := ⟨h8_⟩
                have n9_ : Aside0 (Below w.heap.size w w8) := ⟨h9_⟩
                clear BK298 BK299 HB h0_ h1_ h2_ h3_ h4_ h5_ h6_ h7_ h8_ h9_
                have BK298 := n0_
                have BK299 := n1_
                have BK312 := n2_
                have GW312 := n3_
                have GE312 := n4_
                have NB298_312 := n5_
                have NB312_298 := n6_
                have NB299_312 := n7_
                have NB312_299 := n8_
                have HB := n9_
                clear n0_ n1_ n2_ n3_ n4_ n5_ n6_ n7_ n8_ n9_
                have hHeld : w8.cell? ⟨gb298, 0, none⟩ = some (.slice A0_0 l0_0.length c0_0) ∧ w8.cell? ⟨gb298, 1, none⟩ = some (.slice A0_1 l0_1.length c0_1) ∧ w8.cell? ⟨gb298, 2, none⟩ = some (.slice A0_2 l0_2.length c0_2) := hS_
                refine norm_ (a' := ?_) ?_ ?_
                rotate_left
                ·
                 simp only [putAll, Act.put, List.setIfInBounds_toArray, List.set_cons_zero, List.set_cons_succ]
                 rfl
                refine two_ (i := 0) (j := 4) (Ni := some 5) (Nj := some 9) #[true, true, true, false, false, true, true, false, false, true, false] #[false, true, true, false, true, true, true, false, false, true, false] rfl rfl rfl rfl (two_of HT_.out (by kernel_rfl)) (by decide) (by decide) (fun K hK => ?_) (fun K hK => ?_)
                ·
                 skip
                 refine Kd.R_lit_step (Kd.int .i64) _ 3 ?hg (N := 5) ?hd (xs := ([] : List Int)) (inner := []) (ok := fun _ => True) (okp := fun _ => True) ?hr ?hp (fun _ hk => hk) trivial (Below.refl _ _) (Nat.le_refl _) (by simp) ?_; (case hd => rfl); (case hg => rfl); (case hr => first | (go_simp; done) | (go_simp; rfl)); (case hp => exact (Reps.none _ _))
                 intro v301 w9 ho10 hb hg_ hnew_
                 clear hg_ hnew_
                 (first | rw [← Ny300.out] at ho10 | (simp only [Int.reduceToNat] at ho10; rw [← Ny300.out] at ho10))
                 have n0_ := Aside0.mk (Kd.R_lower ho10 (below_size (bl_ HB.out)))
                 have n1_ := Aside0.mk (blk_below (bk_ BK298.out) hb)
                 have n2_ := Aside0.mk (blk_below (bk_ BK299.out) hb)
                 have n3_ := Aside0.mk (blk_below (bk_ BK312.out) hb)
                 have n4_ := Aside0.mk (below_step (bl_ HB.out) hb)
                 clear BK298 BK299 BK312 HB
                 have HO302 := n0_
                 have BK298 := n1_
                 have BK299 := n2_
                 have BK312 := n3_
                 have HB := n4_
                 clear n0_ n1_ n2_ n3_ n4_ hb ho10
                 refine hK.out _ _ ⟨(blk_cell BK298.out 0).trans rfl, (blk_cell BK298.out 1).trans rfl, (blk_cell BK298.out 2).trans rfl⟩ (fun hHeld => ?_)
                 clear hK K
                 refine norm_ (a' := ?_) ?_ ?_
                 rotate_left
                 ·
                  show Act.put _ (some 5) _ = _
                  simp only [Act.put, List.setIfInBounds_toArray, List.set_cons_zero, List.set_cons_succ, i64_w, i32_w]
                  rfl
                 exact norm_ (by first | (simp only [putAll, Act.put, List.setIfInBounds_toArray, List.set_cons_zero, List.set_cons_succ]; done) | (simp only [putAll, Act.put, List.setIfInBounds_toArray, List.set_cons_zero, List.set_cons_succ]; rfl)) (hJ0_9 (v301, gb312) _ ⟨hHeld, (by (with_reducible repeat (first | apply Kd.R_alloc | apply Kd.R_drewN | apply Kd.R_drew)); exact HO302.out), (bk_ BK298.out), (bk_ BK299.out), (bk_ BK312.out), GW312.out, GE312.out, NB298_312.out, NB312_298.out, NB299_312.out, NB312_299.out, (bl_ HB.out)⟩)
                ·
                 skip
                 refine Kd.R_lit_step (Kd.int .i64) _ 3 ?hg (N := 9) ?hd (xs := ([] : List Int)) (inner := []) (ok := fun _ => True) (okp := fun _ => True) ?hr ?hp (fun _ hk => hk) trivial (Below.refl _ _) (Nat.le_refl _) (by simp) ?_; (case hd => rfl); (case hg => rfl); (case hr => first | (go_simp; done) | (go_simp; rfl)); (case hp => exact (Reps.none _ _))
                 intro v307 w9 ho10 hb hg_ hnew_
                 clear hg_ hnew_
                 (first | rw [← Ny306.out] at ho10 | (simp only [Int.reduceToNat] at ho10; rw [← Ny306.out] at ho10))
                 have n0_ := Aside0.mk (Kd.R_lower ho10 (below_size (bl_ HB.out)))
                 have n1_ := Aside0.mk (blk_below (bk_ BK298.out) hb)
                 have n2_ := Aside0.mk (blk_below (bk_ BK299.out) hb)
                 have n3_ := Aside0.mk (blk_below (bk_ BK312.out) hb)
                 have n4_ := Aside0.mk (below_step (bl_ HB.out) hb)
                 clear BK298 BK299 BK312 HB
                 have HO308 := n0_
                 have BK298 := n1_
                 have BK299 := n2_
                 have BK312 := n3_
                 have HB := n4_
                 clear n0_ n1_ n2_ n3_ n4_ hb ho10
                 refine hK.out _ _ ⟨(blk_cell BK298.out 0).trans rfl, (blk_cell BK298.out 1).trans rfl, (blk_cell BK298.out 2).trans rfl⟩ (fun hHeld => ?_)
                 clear hK K
                 refine norm_ (a' := ?_) ?_ ?_
                 rotate_left
                 ·
                  show Act.put _ (some 9) _ = _
                  simp only [Act.put, List.setIfInBounds_toArray, List.set_cons_zero, List.set_cons_succ, i64_w, i32_w]
                  rfl
                 exact norm_ (by first | (simp only [putAll, Act.put, List.setIfInBounds_toArray, List.set_cons_zero, List.set_cons_succ]; done) | (simp only [putAll, Act.put, List.setIfInBounds_toArray, List.set_cons_zero, List.set_cons_succ]; rfl)) (hJ4_9 (v307, gb312) _ ⟨hHeld, (by (with_reducible repeat (first | apply Kd.R_alloc | apply Kd.R_drewN | apply Kd.R_drew)); exact HO308.out), (bk_ BK298.out), (bk_ BK299.out), (bk_ BK312.out), GW312.out, GE312.out, NB298_312.out, NB312_298.out, NB299_312.out, NB312_299.out, (bl_ HB.out)⟩)
              ·
               skip
               rintro v307 w9 ⟨hS_, h0_, h1_, h2_, h3_⟩
               have n0_ : Aside0 (Kd.R (Kd.int .i64) 3 w9 w.heap.size (fun _ => True) v307 y306) := ⟨h0_⟩
               have n1_ : Aside0 (w9.heap[gb298]? = some (.cells #[.slice A0_0 l0_0.length c0_0, .slice A0_1 l0_1.length c0_1, .slice A0_2 l0_2.length c0_2] 25 (0, 0))) := ⟨h1_⟩
               have n2_ : Aside0 (w9.heap[gb299]? = some (.cells #[.slice none 0 0, .slice none 0 0, .slice none 0 0] 25 (0, 0))) := ⟨h2_⟩
               have n3_ : Aside0 (Below w.heap.size w w9) := ⟨h3_⟩
               clear BK298 BK299 HB h0_ h1_ h2_ h3_
               have HO308 := n0_
               have BK298 := n1_
               have BK299 := n2_
               have HB := n3_
               clear n0_ n1_ n2_ n3_
               have hHeld : w9.cell? ⟨gb298, 0, none⟩ = some (.slice A0_0 l0_0.length c0_0) ∧ w9.cell? ⟨gb298, 1, none⟩ = some (.slice A0_1 l0_1.length c0_1) ∧ w9.cell? ⟨gb298, 2, none⟩ = some (.slice A0_2 l0_2.length c0_2) := hS_
               refine norm_ (a' := ?_) ?_ ?_
               rotate_left
               ·
                simp only [putAll, Act.put, List.setIfInBounds_toArray, List.set_cons_zero, List.set_cons_succ]
                rfl
               refine two_ (i := 0) (j := 9) (Ni := some 5) (Nj := some 3) #[true, true, true, false, true, true, true, false, false, false, false] #[false, true, true, false, true, true, true, false, false, true, false] rfl rfl rfl rfl (two_of HT_.out (by kernel_rfl)) (by decide) (by decide) (fun K hK => ?_) (fun K hK => ?_)
               ·
                skip
                refine Kd.R_lit_step (Kd.int .i64) _ 3 ?hg (N := 5) ?hd (xs := ([] : List Int)) (inner := []) (ok := fun _ => True) (okp := fun _ => True) ?hr ?hp (fun _ hk => hk) trivial (Below.refl _ _) (Nat.le_refl _) (by simp) ?_; (case hd => rfl); (case hg => rfl); (case hr => first | (go_simp; done) | (go_simp; rfl)); (case hp => exact (Reps.none _ _))
                intro v301 w10 ho11 hb hg_ hnew_
                clear hg_ hnew_
                (first | rw [← Ny300.out] at ho11 | (simp only [Int.reduceToNat] at ho11; rw [← Ny300.out] at ho11))
                have n0_ := Aside0.mk (Kd.R_elder' (by (with_reducible repeat (first | apply Kd.R_alloc | apply Kd.R_drewN | apply Kd.R_drew)); exact HO308.out) (Kd.R_base ho11) hb)
                have n1_ := Aside0.mk (Kd.R_lower (Kd.R_new' ho11 (Kd.R_lt (by (with_reducible repeat (first | apply Kd.R_alloc | apply Kd.R_drewN | apply Kd.R_drew)); exact HO308.out))) (below_size (bl_ HB.out)))
                have n2_ := Aside0.mk (blk_below (bk_ BK298.out) hb)
                have n3_ := Aside0.mk (blk_below (bk_ BK299.out) hb)
                have n4_ := Aside0.mk (below_step (bl_ HB.out) hb)
                clear HO308 BK298 BK299 HB
                have HO308 := n0_
                have HO302 := n1_
                have BK298 := n2_
                have BK299 := n3_
                have HB := n4_
                clear n0_ n1_ n2_ n3_ n4_ hb ho11
                refine hK.out _ _ ⟨(blk_cell BK298.out 0).trans rfl, (blk_cell BK298.out 1).trans rfl, (blk_cell BK298.out 2).trans rfl⟩ (fun hHeld => ?_)
                clear hK K
                refine norm_ (a' := ?_) ?_ ?_
                rotate_left
                ·
                 show Act.put _ (some 5) _ = _
                 simp only [Act.put, List.setIfInBounds_toArray, List.set_cons_zero, List.set_cons_succ, i64_w, i32_w]
                 rfl
                exact norm_ (by first | (simp only [putAll, Act.put, List.setIfInBounds_toArray, List.set_cons_zero, List.set_cons_succ]; done) | (simp only [putAll, Act.put, List.setIfInBounds_toArray, List.set_cons_zero, List.set_cons_succ]; rfl)) (hJ0_4 (v301, v307) _ ⟨hHeld, (by (with_reducible repeat (first | apply Kd.R_alloc | apply Kd.R_drewN | apply Kd.R_drew)); exact Kd.R_mono HO302.out (fun _ hk => hk.2)), (by (with_reducible repeat (first | apply Kd.R_alloc | apply Kd.R_drewN | apply Kd.R_drew)); exact Kd.R_mono HO308.out (fun _ hk => hk.2)), (bk_ BK298.out), (bk_ BK299.out), (bl_ HB.out)⟩)
               ·
                skip
                refine box_step ?hg (N := 3) ?hd (cs := #[.slice none 0 0, .slice none 0 0, .slice none 0 0]) (t := 25) ?hr ?_; (case hd => rfl); (case hg => rfl); (case hr => first | (go_simp; done) | (go_simp; rfl))
                intro gb312 hg w10 hbox hb
                have n0_ := Aside0.mk (Kd.R_below (by (with_reducible repeat (first | apply Kd.R_alloc | apply Kd.R_drewN | apply Kd.R_drew)); exact HO308.out) hb)
                have n1_ := Aside0.mk (blk_below (bk_ BK298.out) hb)
                have n2_ := Aside0.mk (blk_below (bk_ BK299.out) hb)
                have n3_ := Aside0.mk (below_step (bl_ HB.out) hb)
                have n4_ := Aside0.mk (hbox)
                have n5_ := Aside0.mk (szl_ hg HB.out)
                have n6_ := Aside0.mk (szl_ hg HB.out)
                have n7_ := Aside0.mk (nel_ hg BK298.out)
                have n8_ := Aside0.mk (ner_ hg BK298.out)
                have n9_ := Aside0.mk (nel_ hg BK299.out)
                have n10_ := Aside0.mk (ner_ hg BK299.out)
                clear HO308 BK298 BK299 HB
                have HO308 := n0_
                have BK298 := n1_
                have BK299 := n2_
                have HB := n3_
                have BK312 := n4_
                have GW312 := n5_
                have GE312 := n6_
                have NB298_312 := n7_
                have NB312_298 := n8_
                have NB299_312 := n9_
                have NB312_299 := n10_
                clear n0_ n1_ n2_ n3_ n4_ n5_ n6_ n7_ n8_ n9_ n10_ hb hbox hg
                refine hK.out _ _ ⟨(blk_cell BK298.out 0).trans rfl, (blk_cell BK298.out 1).trans rfl, (blk_cell BK298.out 2).trans rfl⟩ (fun hHeld => ?_)
                clear hK K
                refine norm_ (a' := ?_) ?_ ?_
                rotate_left
                ·
                 show Act.put _ (some 3) _ = _
                 simp only [Act.put, List.setIfInBounds_toArray, List.set_cons_zero, List.set_cons_succ, i64_w, i32_w]
                 rfl
                exact norm_ (by first | (simp only [putAll, Act.put, List.setIfInBounds_toArray, List.set_cons_zero, List.set_cons_succ]; done) | (simp only [putAll, Act.put, List.setIfInBounds_toArray, List.set_cons_zero, List.set_cons_succ]; rfl)) (hJ4_9 (v307, gb312) _ ⟨hHeld, (by (with_reducible repeat (first | apply Kd.R_alloc | apply Kd.R_drewN | apply Kd.R_drew)); exact HO308.out), (bk_ BK298.out), (bk_ BK299.out), (bk_ BK312.out), GW312.out, GE312.out, NB298_312.out, NB312_298.out, NB299_312.out, NB312_299.out, (bl_ HB.out)⟩)
             ·
              skip
              rintro v301 w9 ⟨hS_, h0_, h1_, h2_, h3_⟩
              have n0_ : Aside0 (Kd.R (Kd.int .i64) 3 w9 w.heap.size (fun _ => True) v301 y300) := ⟨h0_⟩
              have n1_ : Aside0 (w9.heap[gb298]? = some (.cells #[.slice A0_0 l0_0.length c0_0, .slice A0_1 l0_1.length c0_1, .slice A0_2 l0_2.length c0_2] 25 (0, 0))) := ⟨h1_⟩
              have n2_ : Aside0 (w9.heap[gb299]? = some (.cells #[.slice none 0 0, .slice none 0 0, .slice none 0 0] 25 (0, 0))) := ⟨h2_⟩
              have n3_ : Aside0 (Below w.heap.size w w9) := ⟨h3_⟩
              clear BK298 BK299 HB h0_ h1_ h2_ h3_
              have HO302 := n0_
              have BK298 := n1_
              have BK299 := n2_
              have HB := n3_
              clear n0_ n1_ n2_ n3_
              have hHeld : w9.cell? ⟨gb298, 0, none⟩ = some (.slice A0_0 l0_0.length c0_0) ∧ w9.cell? ⟨gb298, 1, none⟩ = some (.slice A0_1 l0_1.length c0_1) ∧ w9.cell? ⟨gb298, 2, none⟩ = some (.slice A0_2 l0_2.length c0_2) := hS_
              refine norm_ (a' := ?_) ?_ ?_
              rotate_left
              ·
               simp only [putAll, Act.put, List.setIfInBounds_toArray, List.set_cons_zero, List.set_cons_succ]
               rfl
              refine three_ (i := 3) (j := 4) (k := 9) (Ni := some 8) (Nj := some 9) (Nk := some 3) #[true, true, true, true, false, true, true, false, false, false, false] #[true, true, true, false, true, true, true, false, false, false, false] #[true, true, true, false, false, true, true, false, false, true, false] rfl rfl rfl rfl rfl rfl (three_of HT_.out (by kernel_rfl)) (by decide) (by decide) (by decide) (fun K hK => ?_) (fun K hK => ?_) (fun K hK => ?_)
              ·
               skip
               refine Kd.R_append_rows_step (Kd.int .i64) (w0 := w) w.heap.size (by rfl) (.tmp 5) (.tmp 7) 22 3 (.int .i64 0) 8 rfl Try.underlying22 info3 rfl (by decide) (by omega) v301 y300 l0_0 _ _ _ (fun _ => True) (fun _ => False) rfl rfl ?aO ?aR (fun _ _ h => h) (fun _ h => h.elim) ?aF ?aB ?aS ?aL ?_
               (case aR => exact cr_ (Kd.C_below HR0_0.out HB.out))
               (case aB => exact (bl_ HB.out))
               (case aF => exact (fun _ _ => trivial))
               (case aO => exact (by (with_reducible repeat (first | apply Kd.R_alloc | apply Kd.R_drewN | apply Kd.R_drew)); exact HO302.out))
               (case aS => exact (below_size (bl_ HB.out)))
               (case aL => have := LMc2.out; omega)
               intro v304 w10 ho hb hg hat
               rw [← Ny303.out] at ho
               have n0_ := Aside0.mk (blk_grown (bk_ BK298.out) hg (Kd.R_ne HO302.out BK298.out (by decide)))
               have n1_ := Aside0.mk (blk_grown (bk_ BK299.out) hg (Kd.R_ne HO302.out BK299.out (by decide)))
               have n2_ := Aside0.mk (hb)
               have n3_ := Aside0.mk (ho)
               clear BK298 BK299 HB HO302
               have BK298 := n0_
               have BK299 := n1_
               have HB := n2_
               have HO305 := n3_
               clear n0_ n1_ n2_ n3_ ho hb hg hat
               refine hK.out _ _ ⟨(blk_cell BK298.out 0).trans rfl, (blk_cell BK298.out 1).trans rfl, (blk_cell BK298.out 2).trans rfl⟩ (fun hHeld => ?_)
               clear hK K
               refine norm_ (a' := ?_) ?_ ?_
               rotate_left
               ·
                show Act.put _ (some 8) _ = _
                simp only [Act.put, List.setIfInBounds_toArray, List.set_cons_zero, List.set_cons_succ, i64_w, i32_w]
                rfl
               exact norm_ (by first | (simp only [putAll, Act.put, List.setIfInBounds_toArray, List.set_cons_zero, List.set_cons_succ]; done) | (simp only [putAll, Act.put, List.setIfInBounds_toArray, List.set_cons_zero, List.set_cons_succ]; rfl)) (hJ0_3 (v301, v304) _ ⟨hHeld, (by (with_reducible repeat (first | apply Kd.R_alloc | apply Kd.R_drewN | apply Kd.R_drew)); exact HO305.out), (bk_ BK298.out), (bk_ BK299.out), (bl_ HB.out)⟩)
              ·
               skip
               refine Kd.R_lit_step (Kd.int .i64) _ 3 ?hg (N := 9) ?hd (xs := ([] : List Int)) (inner := []) (ok := fun _ => True) (okp := fun _ => True) ?hr ?hp (fun _ hk => hk) trivial (Below.refl _ _) (Nat.le_refl _) (by simp) ?_; (case hd => rfl); (case hg => rfl); (case hr => first | (go_simp; done) | (go_simp; rfl)); (case hp => exact (Reps.none _ _))
               intro v307 w10 ho11 hb hg_ hnew_
               clear hg_ hnew_
               (first | rw [← Ny306.out] at ho11 | (simp only [Int.reduceToNat] at ho11; rw [← Ny306.out] at ho11))
               have n0_ := Aside0.mk (Kd.R_elder' (by (with_reducible repeat (first | apply Kd.R_alloc | apply Kd.R_drewN | apply Kd.R_drew)); exact HO302.out) (Kd.R_base ho11) hb)
               have n1_ := Aside0.mk (Kd.R_lower (Kd.R_new' ho11 (Kd.R_lt (by (with_reducible repeat (first | apply Kd.R_alloc | apply Kd.R_drewN | apply Kd.R_drew)); exact HO302.out))) (below_size (bl_ HB.out)))
               have n2_ := Aside0.mk (blk_below (bk_ BK298.out) hb)
               have n3_ := Aside0.mk (blk_below (bk_ BK299.out) hb)
               have n4_ := Aside0.mk (below_step (bl_ HB.out) hb)
               clear HO302 BK298 BK299 HB
               have HO302 := n0_
               have HO308 := n1_
               have BK298 := n2_
               have BK299 := n3_
               have HB := n4_
               clear n0_ n1_ n2_ n3_ n4_ hb ho11
               refine hK.out _ _ ⟨(blk_cell BK298.out 0).trans rfl, (blk_cell BK298.out 1).trans rfl, (blk_cell BK298.out 2).trans rfl⟩ (fun hHeld => ?_)
               clear hK K
               refine norm_ (a' := ?_) ?_ ?_
               rotate_left
               ·
                show Act.put _ (some 9) _ = _
                simp only [Act.put, List.setIfInBounds_toArray, List.set_cons_zero, List.set_cons_succ, i64_w, i32_w]
                rfl
               exact norm_ (by first | (simp only [putAll, Act.put, List.setIfInBounds_toArray, List.set_cons_zero, List.set_cons_succ]; done) | (simp only [putAll, Act.put, List.setIfInBounds_toArray, List.set_cons_zero, List.set_cons_succ]; rfl)) (hJ0_4 (v301, v307) _ ⟨hHeld, (by (with_reducible repeat (first | apply Kd.R_alloc | apply Kd.R_drewN | apply Kd.R_drew)); exact Kd.R_mono HO302.out (fun _ hk => hk.2)), (by (with_reducible repeat (first | apply Kd.R_alloc | apply Kd.R_drewN | apply Kd.R_drew)); exact Kd.R_mono HO308.out (fun _ hk => hk.2)), (bk_ BK298.out), (bk_ BK299.out), (bl_ HB.out)⟩)
              ·
               skip
               refine box_step ?hg (N := 3) ?hd (cs := #[.slice none 0 0, .slice none 0 0, .slice none 0 0]) (t := 25) ?hr ?_; (case hd => rfl); (case hg => rfl); (case hr => first | (go_simp; done) | (go_simp; rfl))
               intro gb312 hg w10 hbox hb
               have n0_ := Aside0.mk (Kd.R_below (by (with_reducible repeat (first | apply Kd.R_alloc | apply Kd.R_drewN | apply Kd.R_drew)); exact HO302.out) hb)
               have n1_ := Aside0.mk (blk_below (bk_ BK298.out) hb)
               have n2_ := Aside0.mk (blk_below (bk_ BK299.out) hb)
               have n3_ := Aside0.mk (below_step (bl_ HB.out) hb)
               have n4_ := Aside0.mk (hbox)
               have n5_ := Aside0.mk (szl_ hg HB.out)
               have n6_ := Aside0.mk (szl_ hg HB.out)
               have n7_ := Aside0.mk (nel_ hg BK298.out)
               have n8_ := Aside0.mk (ner_ hg BK298.out)
               have n9_ := Aside0.mk (nel_ hg BK299.out)
               have n10_ := Aside0.mk (ner_ hg BK299.out)
               clear HO302 BK298 BK299 HB
               have HO302 := n0_
               have BK298 := n1_
               have BK299 := n2_
               have HB := n3_
               have BK312 := n4_
               have GW312 := n5_
               have GE312 := n6_
               have NB298_312 := n7_
               have NB312_298 := n8_
               have NB299_312 := n9_
               have NB312_299 := n10_
               clear n0_ n1_ n2_ n3_ n4_ n5_ n6_ n7_ n8_ n9_ n10_ hb hbox hg
               refine hK.out _ _ ⟨(blk_cell BK298.out 0).trans rfl, (blk_cell BK298.out 1).trans rfl, (blk_cell BK298.out 2).trans rfl⟩ (fun hHeld => ?_)
               clear hK K
               refine norm_ (a' := ?_) ?_ ?_
               rotate_left
               ·
                show Act.put _ (some 3) _ = _
                simp only [Act.put, List.setIfInBounds_toArray, List.set_cons_zero, List.set_cons_succ, i64_w, i32_w]
                rfl
               exact norm_ (by first | (simp only [putAll, Act.put, List.setIfInBounds_toArray, List.set_cons_zero, List.set_cons_succ]; done) | (simp only [putAll, Act.put, List.setIfInBounds_toArray, List.set_cons_zero, List.set_cons_succ]; rfl)) (hJ0_9 (v301, gb312) _ ⟨hHeld, (by (with_reducible repeat (first | apply Kd.R_alloc | apply Kd.R_drewN | apply Kd.R_drew)); exact HO302.out), (bk_ BK298.out), (bk_ BK299.out), (bk_ BK312.out), GW312.out, GE312.out, NB298_312.out, NB312_298.out, NB299_312.out, NB312_299.out, (bl_ HB.out)⟩)
            ·
             skip
             rintro ⟨v307, gb312⟩ w10 ⟨hS_, h0_, h1_, h2_, h3_, h4_, h5_, h6_, h7_, h8_, h9_, h10_⟩
             have n0_ : Aside0 (Kd.R (Kd.int .i64) 3 w10 w.heap.size (fun _ => True) v307 y306) := ⟨h0_⟩
             have n1_ : Aside0 (w10.heap[gb298]? = some (.cells #[.slice A0_0 l0_0.length c0_0, .slice A0_1 l0_1.length c0_1, .slice A0_2 l0_2.length c0_2] 25 (0, 0))) := ⟨h1_⟩
             have n2_ : Aside0 (w10.heap[gb299]? = some (.cells #[.slice none 0 0, .slice none 0 0, .slice none 0 0] 25 (0, 0))) := ⟨h2_⟩
             have n3_ : Aside0 (w10.heap[gb312]? = some (.cells #[.slice none 0 0, .slice none 0 0, .slice none 0 0] 25 (0, 0))) := ⟨h3_⟩
             have n4_ : Aside0 (w.heap.size ≤ gb312) := ⟨h4_⟩
             have n5_ : Aside0 (w.heap.size ≤ gb312) := ⟨h5_⟩
             have n6_ : Aside0 (gb298 ≠ gb312) := ⟨h6_⟩
             have n7_ : Aside0 (gb312 ≠ gb298) := ⟨h7_⟩
             have n8_ : Aside0 (gb299 ≠ gb312) := ⟨h8_⟩
             have n9_ : Aside0 (gb312 ≠ gb299) := ⟨h9_⟩
             have n10_ : Aside0 (Below w.heap.size w w10) := ⟨h10_⟩
             clear BK298 BK299 HB h0_ h1_ h2_ h3_ h4_ h5_ h6_ h7_ h8_ h9_ h10_
             have HO308 := n0_
             have BK298 := n1_
             have BK299 := n2_
             have BK312 := n3_
             have GW312 := n4_
             have GE312 := n5_
             have NB298_312 := n6_
             have NB312_298 := n7_
             have NB299_312 := n8_
             have NB312_299 := n9_
             have HB := n10_
             clear n0_ n1_ n2_ n3_ n4_ n5_ n6_ n7_ n8_ n9_ n10_
             have hHeld : w10.cell? ⟨gb298, 0, none⟩ = some (.slice A0_0 l0_0.length c0_0) ∧ w10.cell? ⟨gb298, 1, none⟩ = some (.slice A0_1 l0_1.length c0_1) ∧ w10.cell? ⟨gb298, 2, none⟩ = some (.slice A0_2 l0_2.length c0_2) := hS_
             refine norm_ (a' := ?_) ?_ ?_
             rotate_left
             ·
              simp only [putAll, Act.put, List.setIfInBounds_toArray, List.set_cons_zero, List.set_cons_succ]
              rfl
             refine one_ (i := 0) (N := some 5) #[true, true, true, false, true, true, true, false, false, true, false] rfl rfl (one_of HT_.out (by kernel_rfl)) (by decide) (fun K hK => ?_)
             refine Kd.R_lit_step (Kd.int .i64) _ 3 ?hg (N := 5) ?hd (xs := ([] : List Int)) (inner := []) (ok := fun _ => True) (okp := fun _ => True) ?hr ?hp (fun _ hk => hk) trivial (Below.refl _ _) (Nat.le_refl _) (by simp) ?_; (case hd => rfl); (case hg => rfl); (case hr => first | (go_simp; done) | (go_simp; rfl)); (case hp => exact (Reps.none _ _))
             intro v301 w11 ho12 hb hg_ hnew_
             clear hg_ hnew_
             (first | rw [← Ny300.out] at ho12 | (simp only [Int.reduceToNat] at ho12; rw [← Ny300.out] at ho12))
             have n0_ := Aside0.mk (Kd.R_elder' (by (with_reducible repeat (first | apply Kd.R_alloc | apply Kd.R_drewN | apply Kd.R_drew)); exact HO308.out) (Kd.R_base ho12) hb)
             have n1_ := Aside0.mk (Kd.R_lower (Kd.R_new' ho12 (Kd.R_lt (by (with_reducible repeat (first | apply Kd.R_alloc | apply Kd.R_drewN | apply Kd.R_drew)); exact HO308.out))) (below_size (bl_ HB.out)))
             have n2_ := Aside0.mk (blk_below (bk_ BK298.out) hb)
             have n3_ := Aside0.mk (blk_below (bk_ BK299.out) hb)
             have n4_ := Aside0.mk (blk_below (bk_ BK312.out) hb)
             have n5_ := Aside0.mk (below_step (bl_ HB.out) hb)
             clear HO308 BK298 BK299 BK312 HB
             have HO308 := n0_
             have HO302 := n1_
             have BK298 := n2_
             have BK299 := n3_
             have BK312 := n4_
             have HB := n5_
             clear n0_ n1_ n2_ n3_ n4_ n5_ hb ho12
             refine hK.out _ _ ⟨(blk_cell BK298.out 0).trans rfl, (blk_cell BK298.out 1).trans rfl, (blk_cell BK298.out 2).trans rfl⟩ (fun hHeld => ?_)
             clear hK K
             refine norm_ (a' := ?_) ?_ ?_
             rotate_left
             ·
              show Act.put _ (some 5) _ = _
              simp only [Act.put, List.setIfInBounds_toArray, List.set_cons_zero, List.set_cons_succ, i64_w, i32_w]
              rfl
             exact norm_ (by first | (simp only [putAll, Act.put, List.setIfInBounds_toArray, List.set_cons_zero, List.set_cons_succ]; done) | (simp only [putAll, Act.put, List.setIfInBounds_toArray, List.set_cons_zero, List.set_cons_succ]; rfl)) (hJ0_4_9 (v301, v307, gb312) _ ⟨hHeld, (by (with_reducible repeat (first | apply Kd.R_alloc | apply Kd.R_drewN | apply Kd.R_drew)); exact Kd.R_mono HO302.out (fun _ hk => hk.2)), (by (with_reducible repeat (first | apply Kd.R_alloc | apply Kd.R_drewN | apply Kd.R_drew)); exact Kd.R_mono HO308.out (fun _ hk => hk.2)), (bk_ BK298.out), (bk_ BK299.out), (bk_ BK312.out), GW312.out, GE312.out, NB298_312.out, NB312_298.out, NB299_312.out, NB312_299.out, (bl_ HB.out)⟩)
           ·
            skip
            rintro ⟨v301, gb312⟩ w10 ⟨hS_, h0_, h1_, h2_, h3_, h4_, h5_, h6_, h7_, h8_, h9_, h10_⟩
            have n0_ : Aside0 (Kd.R (Kd.int .i64) 3 w10 w.heap.size (fun _ => True) v301 y300) := ⟨h0_⟩
            have n1_ : Aside0 (w10.heap[gb298]? = some (.cells #[.slice A0_0 l0_0.length c0_0, .slice A0_1 l0_1.length c0_1, .slice A0_2 l0_2.length c0_2] 25 (0, 0))) := ⟨h1_⟩
            have n2_ : Aside0 (w10.heap[gb299]? = some (.cells #[.slice none 0 0, .slice none 0 0, .slice none 0 0] 25 (0, 0))) := ⟨h2_⟩
            have n3_ : Aside0 (w10.heap[gb312]? = some (.cells #[.slice none 0 0, .slice none 0 0, .slice none 0 0] 25 (0, 0))) := ⟨h3_⟩
            have n4_ : Aside0 (w.heap.size ≤ gb312) := ⟨h4_⟩
            have n5_ : Aside0 (w.heap.size ≤ gb312) := ⟨h5_⟩
            have n6_ : Aside0 (gb298 ≠ gb312) := ⟨h6_⟩
            have n7_ : Aside0 (gb312 ≠ gb298) := ⟨h7_⟩
            have n8_ : Aside0 (gb299 ≠ gb312) := ⟨h8_⟩
            have n9_ : Aside0 (gb312 ≠ gb299) := ⟨h9_⟩
            have n10_ : Aside0 (Below w.heap.size w w10) := ⟨h10_⟩
            clear BK298 BK299 HB h0_ h1_ h2_ h3_ h4_ h5_ h6_ h7_ h8_ h9_ h10_
            have HO302 := n0_
            have BK298 := n1_
            have BK299 := n2_
            have BK312 := n3_
            have GW312 := n4_
            have GE312 := n5_
            have NB298_312 := n6_
            have NB312_298 := n7_
            have NB299_312 := n8_
            have NB312_299 := n9_
            have HB := n10_
            clear n0_ n1_ n2_ n3_ n4_ n5_ n6_ n7_ n8_ n9_ n10_
            have hHeld : w10.cell? ⟨gb298, 0, none⟩ = some (.slice A0_0 l0_0.length c0_0) ∧ w10.cell? ⟨gb298, 1, none⟩ = some (.slice A0_1 l0_1.length c0_1) ∧ w10.cell? ⟨gb298, 2, none⟩ = some (.slice A0_2 l0_2.length c0_2) := hS_
            refine norm_ (a' := ?_) ?_ ?_
            rotate_left
            ·
             simp only [putAll, Act.put, List.setIfInBounds_toArray, List.set_cons_zero, List.set_cons_succ]
             rfl
            refine two_ (i := 3) (j := 4) (Ni := some 8) (Nj := some 9) #[true, true, true, true, false, true, true, false, false, true, false] #[true, true, true, false, true, true, true, false, false, true, false] rfl rfl rfl rfl (two_of HT_.out (by kernel_rfl)) (by decide) (by decide) (fun K hK => ?_) (fun K hK => ?_)
            ·
             skip
             refine Kd.R_append_rows_step (Kd.int .i64) (w0 := w) w.heap.size (by rfl) (.tmp 5) (.tmp 7) 22 3 (.int .i64 0) 8 rfl Try.underlying22 info3 rfl (by decide) (by omega) v301 y300 l0_0 _ _ _ (fun _ => True) (fun _ => False) rfl rfl ?aO ?aR (fun _ _ h => h) (fun _ h => h.elim) ?aF ?aB ?aS ?aL ?_
             (case aR => exact cr_ (Kd.C_below HR0_0.out HB.out))
             (case aB => exact (bl_ HB.out))
             (case aF => exact (fun _ _ => trivial))
             (case aO => exact (by (with_reducible repeat (first | apply Kd.R_alloc | apply Kd.R_drewN | apply Kd.R_drew)); exact HO302.out))
             (case aS => exact (below_size (bl_ HB.out)))
             (case aL => have := LMc2.out; omega)
             intro v304 w11 ho hb hg hat
             rw [← Ny303.out] at ho
             have n0_ := Aside0.mk (blk_grown (bk_ BK298.out) hg (Kd.R_ne HO302.out BK298.out (by decide)))
             have n1_ := Aside0.mk (blk_grown (bk_ BK299.out) hg (Kd.R_ne HO302.out BK299.out (by decide)))
             have n2_ := Aside0.mk (blk_grown (bk_ BK312.out) hg (Kd.R_ne HO302.out BK312.out (by decide)))
             have n3_ := Aside0.mk (hb)
             have n4_ := Aside0.mk (ho)
             clear BK298 BK299 BK312 HB HO302
             have BK298 := n0_
             have BK299 := n1_
             have BK312 := n2_
             have HB := n3_
             have HO305 := n4_
             clear n0_ n1_ n2_ n3_ n4_ ho hb hg hat
             refine hK.out _ _ ⟨(blk_cell BK298.out 0).trans rfl, (blk_cell BK298.out 1).trans rfl, (blk_cell BK298.out 2).trans rfl⟩ (fun hHeld => ?_)
             clear hK K
             refine norm_ (a' := ?_) ?_ ?_
             rotate_left
             ·
              show Act.put _ (some 8) _ = _
              simp only [Act.put, List.setIfInBounds_toArray, List.set_cons_zero, List.set_cons_succ, i64_w, i32_w]
              rfl
             exact norm_ (by first | (simp only [putAll, Act.put, List.setIfInBounds_toArray, List.set_cons_zero, List.set_cons_succ]; done) | (simp only [putAll, Act.put, List.setIfInBounds_toArray, List.set_cons_zero, List.set_cons_succ]; rfl)) (hJ0_3_9 (v301, v304, gb312) _ ⟨hHeld, (by (with_reducible repeat (first | apply Kd.R_alloc | apply Kd.R_drewN | apply Kd.R_drew)); exact HO305.out), (bk_ BK298.out), (bk_ BK299.out), (bk_ BK312.out), GW312.out, GE312.out, NB298_312.out, NB312_298.out, NB299_312.out, NB312_299.out, (bl_ HB.out)⟩)
            ·
             skip
             refine Kd.R_lit_step (Kd.int .i64) _ 3 ?hg (N := 9) ?hd (xs := ([] : List Int)) (inner := []) (ok := fun _ => True) (okp := fun _ => True) ?hr ?hp (fun _ hk => hk) trivial (Below.refl _ _) (Nat.le_refl _) (by simp) ?_; (case hd => rfl); (case hg => rfl); (case hr => first | (go_simp; done) | (go_simp; rfl)); (case hp => exact (Reps.none _ _))
             intro v307 w11 ho12 hb hg_ hnew_
             clear hg_ hnew_
             (first | rw [← Ny306.out] at ho12 | (simp only [Int.reduceToNat] at ho12; rw [← Ny306.out] at ho12))
             have n0_ := Aside0.mk (Kd.R_elder' (by (with_reducible repeat (first | apply Kd.R_alloc | apply Kd.R_drewN | apply Kd.R_drew)); exact HO302.out) (Kd.R_base ho12) hb)
             have n1_ := Aside0.mk (Kd.R_lower (Kd.R_new' ho12 (Kd.R_lt (by (with_reducible repeat (first | apply Kd.R_alloc | apply Kd.R_drewN | apply Kd.R_drew)); exact HO302.out))) (below_size (bl_ HB.out)))
             have n2_ := Aside0.mk (blk_below (bk_ BK298.out) hb)
             have n3_ := Aside0.mk (blk_below (bk_ BK299.out) hb)
             have n4_ := Aside0.mk (blk_below (bk_ BK312.out) hb)
             have n5_ := Aside0.mk (below_step (bl_ HB.out) hb)
             clear HO302 BK298 BK299 BK312 HB
             have HO302 := n0_
             have HO308 := n1_
             have BK298 := n2_
             have BK299 := n3_
             have BK312 := n4_
             have HB := n5_
             clear n0_ n1_ n2_ n3_ n4_ n5_ hb ho12
             refine hK.out _ _ ⟨(blk_cell BK298.out 0).trans rfl, (blk_cell BK298.out 1).trans rfl, (blk_cell BK298.out 2).trans rfl⟩ (fun hHeld => ?_)
             clear hK K
             refine norm_ (a' := ?_) ?_ ?_
             rotate_left
             ·
              show Act.put _ (some 9) _ = _
              simp only [Act.put, List.setIfInBounds_toArray, List.set_cons_zero, List.set_cons_succ, i64_w, i32_w]
              rfl
             exact norm_ (by first | (simp only [putAll, Act.put, List.setIfInBounds_toArray, List.set_cons_zero, List.set_cons_succ]; done) | (simp only [putAll, Act.put, List.setIfInBounds_toArray, List.set_cons_zero, List.set_cons_succ]; rfl)) (hJ0_4_9 (v301, v307, gb312) _ ⟨hHeld, (by (with_reducible repeat (first | apply Kd.R_alloc | apply Kd.R_drewN | apply Kd.R_drew)); exact Kd.R_mono HO302.out (fun _ hk => hk.2)), (by (with_reducible repeat (first | apply Kd.R_alloc | apply Kd.R_drewN | apply Kd.R_drew)); exact Kd.R_mono HO308.out (fun _ hk => hk.2)), (bk_ BK298.out), (bk_ BK299.out), (bk_ BK312.out), GW312.out, GE312.out, NB298_312.out, NB312_298.out, NB299_312.out, NB312_299.out, (bl_ HB.out)⟩)
          ·
           skip
           rintro ⟨v301, v307⟩ w11 ⟨hS_, h0_, h1_, h2_, h3_, h4_⟩
           have n0_ : Aside0 (Kd.R (Kd.int .i64) 3 w11 w.heap.size (fun k_ => some k_ ≠ (v307 : Value).ownBlock) v301 y300) := ⟨h0_⟩
           have n1_ : Aside0 (Kd.R (Kd.int .i64) 3 w11 w.heap.size (fun k_ => some k_ ≠ (v301 : Value).ownBlock) v307 y306) := ⟨h1_⟩
           have n2_ : Aside0 (w11.heap[gb298]? = some (.cells #[.slice A0_0 l0_0.length c0_0, .slice A0_1 l0_1.length c0_1, .slice A0_2 l0_2.length c0_2] 25 (0, 0))) := ⟨h2_⟩
           have n3_ : Aside0 (w11.heap[gb299]? = some (.cells #[.slice none 0 0, .slice none 0 0, .slice none 0 0] 25 (0, 0))) := ⟨h3_⟩
           have n4_ : Aside0 (Below w.heap.size w w11) := ⟨h4_⟩
           clear BK298 BK299 HB h0_ h1_ h2_ h3_ h4_
           have HO302 := n0_
           have HO308 := n1_
           have BK298 := n2_
           have BK299 := n3_
           have HB := n4_
           clear n0_ n1_ n2_ n3_ n4_
           have hHeld : w11.cell? ⟨gb298, 0, none⟩ = some (.slice A0_0 l0_0.length c0_0) ∧ w11.cell? ⟨gb298, 1, none⟩ = some (.slice A0_1 l0_1.length c0_1) ∧ w11.cell? ⟨gb298, 2, none⟩ = some (.slice A0_2 l0_2.length c0_2) := hS_
           refine norm_ (a' := ?_) ?_ ?_
           rotate_left
           ·
            simp only [putAll, Act.put, List.setIfInBounds_toArray, List.set_cons_zero, List.set_cons_succ]
            rfl
           refine two_ (i := 3) (j := 9) (Ni := some 8) (Nj := some 3) #[true, true, true, true, true, true, true, false, false, false, false] #[true, true, true, false, true, true, true, false, false, true, false] rfl rfl rfl rfl (two_of HT_.out (by kernel_rfl)) (by decide) (by decide) (fun K hK => ?_) (fun K hK => ?_)
           ·
            skip
            refine Kd.R_append_rows_step (Kd.int .i64) (w0 := w) w.heap.size (by rfl) (.tmp 5) (.tmp 7) 22 3 (.int .i64 0) 8 rfl Try.underlying22 info3 rfl (by decide) (by omega) v301 y300 l0_0 _ _ _ (fun k_ => some k_ ≠ (v307 : Value).ownBlock) (fun _ => False) rfl rfl ?aO ?aR (fun _ _ h => h) (fun _ h => h.elim) ?aF ?aB ?aS ?aL ?_
            (case aR => exact cr_ (Kd.C_below HR0_0.out HB.out))
            (case aB => exact (bl_ HB.out))
            (case aF => exact (fun k_ hk => Kd.fresh' (Kd.R_lt (by (with_reducible repeat (first | apply Kd.R_alloc | apply Kd.R_drewN | apply Kd.R_drew)); exact HO308.out)) k_ hk))
            (case aO => exact (by (with_reducible repeat (first | apply Kd.R_alloc | apply Kd.R_drewN | apply Kd.R_drew)); exact HO302.out))
            (case aS => exact (below_size (bl_ HB.out)))
            (case aL => have := LMc2.out; omega)
            intro v304 w12 ho hb hg hat
            rw [← Ny303.out] at ho
            have n0_ := Aside0.mk (blk_grown (bk_ BK298.out) hg (Kd.R_ne HO302.out BK298.out (by decide)))
            have n1_ := Aside0.mk (blk_grown (bk_ BK299.out) hg (Kd.R_ne HO302.out BK299.out (by decide)))
            have n2_ := Aside0.mk (Kd.R_after (ok := (fun _ => True)) (by (with_reducible repeat (first | apply Kd.R_alloc | apply Kd.R_drewN | apply Kd.R_drew)); exact Kd.R_mono HO308.out (fun _ hk => ⟨trivial, hk⟩)) hg hat)
            have n3_ := Aside0.mk (hb)
            have n4_ := Aside0.mk (ho)
            clear BK298 BK299 HO308 HB HO302
            have BK298 := n0_
            have BK299 := n1_
            have HO308 := n2_
            have HB := n3_
            have HO305 := n4_
            clear n0_ n1_ n2_ n3_ n4_ ho hb hg hat
            refine hK.out _ _ ⟨(blk_cell BK298.out 0).trans rfl, (blk_cell BK298.out 1).trans rfl, (blk_cell BK298.out 2).trans rfl⟩ (fun hHeld => ?_)
            clear hK K
            refine norm_ (a' := ?_) ?_ ?_
            rotate_left
            ·
             show Act.put _ (some 8) _ = _
             simp only [Act.put, List.setIfInBounds_toArray, List.set_cons_zero, List.set_cons_succ, i64_w, i32_w]
             rfl
            exact norm_ (by first | (simp only [putAll, Act.put, List.setIfInBounds_toArray, List.set_cons_zero, List.set_cons_succ]; done) | (simp only [putAll, Act.put, List.setIfInBounds_toArray, List.set_cons_zero, List.set_cons_succ]; rfl)) (hJ0_3_4 (v301, v304, v307) _ ⟨hHeld, (by (with_reducible repeat (first | apply Kd.R_alloc | apply Kd.R_drewN | apply Kd.R_drew)); exact HO305.out), (by (with_reducible repeat (first | apply Kd.R_alloc | apply Kd.R_drewN | apply Kd.R_drew)); exact Kd.R_mono HO308.out (fun _ hk => hk.2)), (bk_ BK298.out), (bk_ BK299.out), (bl_ HB.out)⟩)
           ·
            skip
            refine box_step ?hg (N := 3) ?hd (cs := #[.slice none 0 0, .slice none 0 0, .slice none 0 0]) (t := 25) ?hr ?_; (case hd => rfl); (case hg => rfl); (case hr => first | (go_simp; done) | (go_simp; rfl))
            intro gb312 hg w12 hbox hb
            have n0_ := Aside0.mk (Kd.R_below (by (with_reducible repeat (first | apply Kd.R_alloc | apply Kd.R_drewN | apply Kd.R_drew)); exact HO302.out) hb)
            have n1_ := Aside0.mk (Kd.R_below (by (with_reducible repeat (first | apply Kd.R_alloc | apply Kd.R_drewN | apply Kd.R_drew)); exact HO308.out) hb)
            have n2_ := Aside0.mk (blk_below (bk_ BK298.out) hb)
            have n3_ := Aside0.mk (blk_below (bk_ BK299.out) hb)
            have n4_ := Aside0.mk (below_step (bl_ HB.out) hb)
            have n5_ := Aside0.mk (hbox)
            have n6_ := Aside0.mk (szl_ hg HB.out)
            have n7_ := Aside0.mk (szl_ hg HB.out)
            have n8_ := Aside0.mk (nel_ hg BK298.out)
            have n9_ := Aside0.mk (ner_ hg BK298.out)
            have n10_ := Aside0.mk (nel_ hg BK299.out)
            have n11_ := Aside0.mk (ner_ hg BK299.out)
            clear HO302 HO308 BK298 BK299 HB
            have HO302 := n0_
            have HO308 := n1_
            have BK298 := n2_
            have BK299 := n3_
            have HB := n4_
            have BK312 := n5_
            have GW312 := n6_
            have GE312 := n7_
            have NB298_312 := n8_
            have NB312_298 := n9_
            have NB299_312 := n10_
            have NB312_299 := n11_
            clear n0_ n1_ n2_ n3_ n4_ n5_ n6_ n7_ n8_ n9_ n10_ n11_ hb hbox hg
            refine hK.out _ _ ⟨(blk_cell BK298.out 0).trans rfl, (blk_cell BK298.out 1).trans rfl, (blk_cell BK298.out 2).trans rfl⟩ (fun hHeld => ?_)
            clear hK K
            refine norm_ (a' := ?_) ?_ ?_
            rotate_left
            ·
             show Act.put _ (some 3) _ = _
             simp only [Act.put, List.setIfInBounds_toArray, List.set_cons_zero, List.set_cons_succ, i64_w, i32_w]
             rfl
            exact norm_ (by first | (simp only [putAll, Act.put, List.setIfInBounds_toArray, List.set_cons_zero, List.set_cons_succ]; done) | (simp only [putAll, Act.put, List.setIfInBounds_toArray, List.set_cons_zero, List.set_cons_succ]; rfl)) (hJ0_4_9 (v301, v307, gb312) _ ⟨hHeld, (by (with_reducible repeat (first | apply Kd.R_alloc | apply Kd.R_drewN | apply Kd.R_drew)); exact HO302.out), (by (with_reducible repeat (first | apply Kd.R_alloc | apply Kd.R_drewN | apply Kd.R_drew)); exact HO308.out), (bk_ BK298.out), (bk_ BK299.out), (bk_ BK312.out), GW312.out, GE312.out, NB298_312.out, NB312_298.out, NB299_312.out, NB312_299.out, (bl_ HB.out)⟩)
         ·
          skip
          rintro ⟨v301, v304⟩ w10 ⟨hS_, h0_, h1_, h2_, h3_⟩
          have n0_ : Aside0 (Kd.R (Kd.int .i64) 3 w10 w.heap.size (fun _ => True) v304 y303) := ⟨h0_⟩
          have n1_ : Aside0 (w10.heap[gb298]? = some (.cells #[.slice A0_0 l0_0.length c0_0, .slice A0_1 l0_1.length c0_1, .slice A0_2 l0_2.length c0_2] 25 (0, 0))) := ⟨h1_⟩
          have n2_ : Aside0 (w10.heap[gb299]? = some (.cells #[.slice none 0 0, .slice none 0 0, .slice none 0 0] 25 (0, 0))) := ⟨h2_⟩
          have n3_ : Aside0 (Below w.heap.size w w10) := ⟨h3_⟩
          clear BK298 BK299 HB h0_ h1_ h2_ h3_
          have HO305 := n0_
          have BK298 := n1_
          have BK299 := n2_
          have HB := n3_
          clear n0_ n1_ n2_ n3_
          have hHeld : w10.cell? ⟨gb298, 0, none⟩ = some (.slice A0_0 l0_0.length c0_0) ∧ w10.cell? ⟨gb298, 1, none⟩ = some (.slice A0_1 l0_1.length c0_1) ∧ w10.cell? ⟨gb298, 2, none⟩ = some (.slice A0_2 l0_2.length c0_2) := hS_
          refine norm_ (a' := ?_) ?_ ?_
          rotate_left
          ·
           simp only [putAll, Act.put, List.setIfInBounds_toArray, List.set_cons_zero, List.set_cons_succ]
           rfl
          refine two_ (i := 4) (j := 9) (Ni := some 9) (Nj := some 3) #[true, true, true, true, true, true, true, false, false, false, false] #[true, true, true, true, false, true, true, false, false, true, false] rfl rfl rfl rfl (two_of HT_.out (by kernel_rfl)) (by decide) (by decide) (fun K hK => ?_) (fun K hK => ?_)
          ·
           skip
           refine Kd.R_lit_step (Kd.int .i64) _ 3 ?hg (N := 9) ?hd (xs := ([] : List Int)) (inner := []) (ok := fun _ => True) (okp := fun _ => True) ?hr ?hp (fun _ hk => hk) trivial (Below.refl _ _) (Nat.le_refl _) (by simp) ?_; (case hd => rfl); (case hg => rfl); (case hr => first | (go_simp; done) | (go_simp; rfl)); (case hp => exact (Reps.none _ _))
           intro v307 w11 ho12 hb hg_ hnew_
           clear hg_ hnew_
           (first | rw [← Ny306.out] at ho12 | (simp only [Int.reduceToNat] at ho12; rw [← Ny306.out] at ho12))
           have n0_ := Aside0.mk (Kd.R_elder' (by (with_reducible repeat (first | apply Kd.R_alloc | apply Kd.R_drewN | apply Kd.R_drew)); exact HO305.out) (Kd.R_base ho12) hb)
           have n1_ := Aside0.mk (Kd.R_lower (Kd.R_new' ho12 (Kd.R_lt (by (with_reducible repeat (first | apply Kd.R_alloc | apply Kd.R_drewN | apply Kd.R_drew)); exact HO305.out))) (below_size (bl_ HB.out)))
           have n2_ := Aside0.mk (blk_below (bk_ BK298.out) hb)
           have n3_ := Aside0.mk (blk_below (bk_ BK299.out) hb)
           have n4_ := Aside0.mk (below_step (bl_ HB.out) hb)
           clear HO305 BK298 BK299 HB
           have HO305 := n0_
           have HO308 := n1_
           have BK298 := n2_
           have BK299 := n3_
           have HB := n4_
           clear n0_ n1_ n2_ n3_ n4_ hb ho12
           refine hK.out _ _ ⟨(blk_cell BK298.out 0).trans rfl, (blk_cell BK298.out 1).trans rfl, (blk_cell BK298.out 2).trans rfl⟩ (fun hHeld => ?_)
           clear hK K
           refine norm_ (a' := ?_) ?_ ?_
           rotate_left
           ·
            show Act.put _ (some 9) _ = _
            simp only [Act.put, List.setIfInBounds_toArray, List.set_cons_zero, List.set_cons_succ, i64_w, i32_w]
            rfl
           exact norm_ (by first | (simp only [putAll, Act.put, List.setIfInBounds_toArray, List.set_cons_zero, List.set_cons_succ]; done) | (simp only [putAll, Act.put, List.setIfInBounds_toArray, List.set_cons_zero, List.set_cons_succ]; rfl)) (hJ0_3_4 (v301, v304, v307) _ ⟨hHeld, (by (with_reducible repeat (first | apply Kd.R_alloc | apply Kd.R_drewN | apply Kd.R_drew)); exact Kd.R_mono HO305.out (fun _ hk => hk.2)), (by (with_reducible repeat (first | apply Kd.R_alloc | apply Kd.R_drewN | apply Kd.R_drew)); exact Kd.R_mono HO308.out (fun _ hk => hk.2)), (bk_ BK298.out), (bk_ BK299.out), (bl_ HB.out)⟩)
          ·
           skip
           refine box_step ?hg (N := 3) ?hd (cs := #[.slice none 0 0, .slice none 0 0, .slice none 0 0]) (t := 25) ?hr ?_; (case hd => rfl); (case hg => rfl); (case hr => first | (go_simp; done) | (go_simp; rfl))
           intro gb312 hg w11 hbox hb
           have n0_ := Aside0.mk (Kd.R_below (by (with_reducible repeat (first | apply Kd.R_alloc | apply Kd.R_drewN | apply Kd.R_drew)); exact HO305.out) hb)
           have n1_ := Aside0.mk (blk_below (bk_ BK298.out) hb)
           have n2_ := Aside0.mk (blk_below (bk_ BK299.out) hb)
           have n3_ := Aside0.mk (below_step (bl_ HB.out) hb)
           have n4_ := Aside0.mk (hbox)
           have n5_ := Aside0.mk (szl_ hg HB.out)
           have n6_ := Aside0.mk (szl_ hg HB.out)
           have n7_ := Aside0.mk (nel_ hg BK298.out)
           have n8_ := Aside0.mk (ner_ hg BK298.out)
           have n9_ := Aside0.mk (nel_ hg BK299.out)
           have n10_ := Aside0.mk (ner_ hg BK299.out)
           clear HO305 BK298 BK299 HB
           have HO305 := n0_
           have BK298 := n1_
           have BK299 := n2_
           have HB := n3_
           have BK312 := n4_
           have GW312 := n5_
           have GE312 := n6_
           have NB298_312 := n7_
           have NB312_298 := n8_
           have NB299_312 := n9_
           have NB312_299 := n10_
           clear n0_ n1_ n2_ n3_ n4_ n5_ n6_ n7_ n8_ n9_ n10_ hb hbox hg
           refine hK.out _ _ ⟨(blk_cell BK298.out 0).trans rfl, (blk_cell BK298.out 1).trans rfl, (blk_cell BK298.out 2).trans rfl⟩ (fun hHeld => ?_)
           clear hK K
           refine norm_ (a' := ?_) ?_ ?_
           rotate_left
           ·
            show Act.put _ (some 3) _ = _
            simp only [Act.put, List.setIfInBounds_toArray, List.set_cons_zero, List.set_cons_succ, i64_w, i32_w]
            rfl
           exact norm_ (by first | (simp only [putAll, Act.put, List.setIfInBounds_toArray, List.set_cons_zero, List.set_cons_succ]; done) | (simp only [putAll, Act.put, List.setIfInBounds_toArray, List.set_cons_zero, List.set_cons_succ]; rfl)) (hJ0_3_9 (v301, v304, gb312) _ ⟨hHeld, (by (with_reducible repeat (first | apply Kd.R_alloc | apply Kd.R_drewN | apply Kd.R_drew)); exact HO305.out), (bk_ BK298.out), (bk_ BK299.out), (bk_ BK312.out), GW312.out, GE312.out, NB298_312.out, NB312_298.out, NB299_312.out, NB312_299.out, (bl_ HB.out)⟩)
        ·
         skip
         rintro ⟨v301, v307, gb312⟩ w12 ⟨hS_, h0_, h1_, h2_, h3_, h4_, h5_, h6_, h7_, h8_, h9_, h10_, h11_⟩
         have n0_ : Aside0 (Kd.R (Kd.int .i64) 3 w12 w.heap.size (fun k_ => some k_ ≠ (v307 : Value).ownBlock) v301 y300) := ⟨h0_⟩
         have n1_ : Aside0 (Kd.R (Kd.int .i64) 3 w12 w.heap.size (fun k_ => some k_ ≠ (v301 : Value).ownBlock) v307 y306) := ⟨h1_⟩
         have n2_ : Aside0 (w12.heap[gb298]? = some (.cells #[.slice A0_0 l0_0.length c0_0, .slice A0_1 l0_1.length c0_1, .slice A0_2 l0_2.length c0_2] 25 (0, 0))) := ⟨h2_⟩
         have n3_ : Aside0 (w12.heap[gb299]? = some (.cells #[.slice none 0 0, .slice none 0 0, .slice none 0 0] 25 (0, 0))) := ⟨h3_⟩
         have n4_ : Aside0 (w12.heap[gb312]? = some (.cells #[.slice none 0 0, .slice none 0 0, .slice none 0 0] 25 (0, 0))) := ⟨h4_⟩
         have n5_ : Aside0 (w.heap.size ≤ gb312) := ⟨h5_⟩
         have n6_ : Aside0 (w.heap.size ≤ gb312) := ⟨h6_⟩
         have n7_ : Aside0 (gb298 ≠ gb312) := ⟨h7_⟩
         have n8_ : Aside0 (gb312 ≠ gb298) := ⟨h8_⟩
         have n9_ : Aside0 (gb299 ≠ gb312) := ⟨h9_⟩
         have n10_ : Aside0 (gb312 ≠ gb299) := ⟨h10_⟩
         have n11_ : Aside0 (Below w.heap.size w w12) := ⟨h11_⟩
         clear BK298 BK299 HB h0_ h1_ h2_ h3_ h4_ h5_ h6_ h7_ h8_ h9_ h10_ h11_
         have HO302 := n0_
         have HO308 := n1_
         have BK298 := n2_
         have BK299 := n3_
         have BK312 := n4_
         have GW312 := n5_
         have GE312 := n6_
         have NB298_312 := n7_
         have NB312_298 := n8_
         have NB299_312 := n9_
         have NB312_299 := n10_
         have HB := n11_
         clear n0_ n1_ n2_ n3_ n4_ n5_ n6_ n7_ n8_ n9_ n10_ n11_
         have hHeld : w12.cell? ⟨gb298, 0, none⟩ = some (.slice A0_0 l0_0.length c0_0) ∧ w12.cell? ⟨gb298, 1, none⟩ = some (.slice A0_1 l0_1.length c0_1) ∧ w12.cell? ⟨gb298, 2, none⟩ = some (.slice A0_2 l0_2.length c0_2) := hS_
         refine norm_ (a' := ?_) ?_ ?_
         rotate_left
         ·
          simp only [putAll, Act.put, List.setIfInBounds_toArray, List.set_cons_zero, List.set_cons_succ]
          rfl
         refine one_ (i := 3) (N := some 8) #[true, true, true, true, true, true, true, false, false, true, false] rfl rfl (one_of HT_.out (by kernel_rfl)) (by decide) (fun K hK => ?_)
         refine Kd.R_append_rows_step (Kd.int .i64) (w0 := w) w.heap.size (by rfl) (.tmp 5) (.tmp 7) 22 3 (.int .i64 0) 8 rfl Try.underlying22 info3 rfl (by decide) (by omega) v301 y300 l0_0 _ _ _ (fun k_ => some k_ ≠ (v307 : Value).ownBlock) (fun _ => False) rfl rfl ?aO ?aR (fun _ _ h => h) (fun _ h => h.elim) ?aF ?aB ?aS ?aL ?_
         (case aR => exact cr_ (Kd.C_below HR0_0.out HB.out))
         (case aB => exact (bl_ HB.out))
         (case aF => exact (fun k_ hk => Kd.fresh' (Kd.R_lt (by (with_reducible repeat (first | apply Kd.R_alloc | apply Kd.R_drewN | apply Kd.R_drew)); exact HO308.out)) k_ hk))
         (case aO => exact (by (with_reducible repeat (first | apply Kd.R_alloc | apply Kd.R_drewN | apply Kd.R_drew)); exact HO302.out))
         (case aS => exact (below_size (bl_ HB.out)))
         (case aL => have := LMc2.out; omega)
         intro v304 w13 ho hb hg hat
         rw [← Ny303.out] at ho
         have n0_ := Aside0.mk (blk_grown (bk_ BK298.out) hg (Kd.R_ne HO302.out BK298.out (by decide)))
         have n1_ := Aside0.mk (blk_grown (bk_ BK299.out) hg (Kd.R_ne HO302.out BK299.out (by decide)))
         have n2_ := Aside0.mk (Kd.R_after (ok := (fun _ => True)) (by (with_reducible repeat (first | apply Kd.R_alloc | apply Kd.R_drewN | apply Kd.R_drew)); exact Kd.R_mono HO308.out (fun _ hk => ⟨trivial, hk⟩)) hg hat)
         have n3_ := Aside0.mk (blk_grown (bk_ BK312.out) hg (Kd.R_ne HO302.out BK312.out (by decide)))
         have n4_ := Aside0.mk (hb)
         have n5_ := Aside0.mk (ho)
         clear BK298 BK299 HO308 BK312 HB HO302
         have BK298 := n0_
         have BK299 := n1_
         have HO308 := n2_
         have BK312 := n3_
         have HB := n4_
         have HO305 := n5_
         clear n0_ n1_ n2_ n3_ n4_ n5_ ho hb hg hat
         refine hK.out _ _ ⟨(blk_cell BK298.out 0).trans rfl, (blk_cell BK298.out 1).trans rfl, (blk_cell BK298.out 2).trans rfl⟩ (fun hHeld => ?_)
         clear hK K
         refine norm_ (a' := ?_) ?_ ?_
         rotate_left
         ·
          show Act.put _ (some 8) _ = _
          simp only [Act.put, List.setIfInBounds_toArray, List.set_cons_zero, List.set_cons_succ, i64_w, i32_w]
          rfl
         exact norm_ (by first | (simp only [putAll, Act.put, List.setIfInBounds_toArray, List.set_cons_zero, List.set_cons_succ]; done) | (simp only [putAll, Act.put, List.setIfInBounds_toArray, List.set_cons_zero, List.set_cons_succ]; rfl)) (hJ0_3_4_9 (v301, v304, v307, gb312) _ ⟨hHeld, (by (with_reducible repeat (first | apply Kd.R_alloc | apply Kd.R_drewN | apply Kd.R_drew)); exact HO305.out), (by (with_reducible repeat (first | apply Kd.R_alloc | apply Kd.R_drewN | apply Kd.R_drew)); exact Kd.R_mono HO308.out (fun _ hk => hk.2)), (bk_ BK298.out), (bk_ BK299.out), (bk_ BK312.out), GW312.out, GE312.out, NB298_312.out, NB312_298.out, NB299_312.out, NB312_299.out, (bl_ HB.out)⟩)
       ·
        skip
        rintro ⟨v301, v304, gb312⟩ w11 ⟨hS_, h0_, h1_, h2_, h3_, h4_, h5_, h6_, h7_, h8_, h9_, h10_⟩
        have n0_ : Aside0 (Kd.R (Kd.int .i64) 3 w11 w.heap.size (fun _ => True) v304 y303) := ⟨h0_⟩
        have n1_ : Aside0 (w11.heap[gb298]? = some (.cells #[.slice A0_0 l0_0.length c0_0, .slice A0_1 l0_1.length c0_1, .slice A0_2 l0_2.length c0_2] 25 (0, 0))) := ⟨h1_⟩
        have n2_ : Aside0 (w11.heap[gb299]? = some (.cells #[.slice none 0 0, .slice none 0 0, .slice none 0 0] 25 (0, 0))) := ⟨h2_⟩
        have n3_ : Aside0 (w11.heap[gb312]? = some (.cells #[.slice none 0 0, .slice none 0 0, .slice none 0 0] 25 (0, 0))) := ⟨h3_⟩
        have n4_ : Aside0 (w.heap.size ≤ gb312) := ⟨h4_⟩
        have n5_ : Aside0 (w.heap.size ≤ gb312) := ⟨h5_⟩
        have n6_ : Aside0 (gb298 ≠ gb312) := ⟨h6_⟩
        have n7_ : Aside0 (gb312 ≠ gb298) := ⟨h7_⟩
        have n8_ : Aside0 (gb299 ≠ gb312) := ⟨h8_⟩
        have n9_ : Aside0 (gb312 ≠ gb299) := ⟨h9_⟩
        have n10_ : Aside0 (Below w.heap.size w w11) := ⟨h10_⟩
        clear BK298 BK299 HB h0_ h1_ h2_ h3_ h4_ h5_ h6_ h7_ h8_ h9_ h10_
        have HO305 := n0_
        have BK298 := n1_
        have BK299 := n2_
        have BK312 := n3_
        have GW312 := n4_
        have GE312 := n5_
        have NB298_312 := n6_
        have NB312_298 := n7_
        have NB299_312 := n8_
        have NB312_299 := n9_
        have HB := n10_
        clear n0_ n1_ n2_ n3_ n4_ n5_ n6_ n7_ n8_ n9_ n10_
        have hHeld : w11.cell? ⟨gb298, 0, none⟩ = some (.slice A0_0 l0_0.length c0_0) ∧ w11.cell? ⟨gb298, 1, none⟩ = some (.slice A0_1 l0_1.length c0_1) ∧ w11.cell? ⟨gb298, 2, none⟩ = some (.slice A0_2 l0_2.length c0_2) := hS_
        refine norm_ (a' := ?_) ?_ ?_
        rotate_left
        ·
         simp only [putAll, Act.put, List.setIfInBounds_toArray, List.set_cons_zero, List.set_cons_succ]
         rfl
        refine one_ (i := 4) (N := some 9) #[true, true, true, true, true, true, true, false, false, true, false] rfl rfl (one_of HT_.out (by kernel_rfl)) (by decide) (fun K hK => ?_)
        refine Kd.R_lit_step (Kd.int .i64) _ 3 ?hg (N := 9) ?hd (xs := ([] : List Int)) (inner := []) (ok := fun _ => True) (okp := fun _ => True) ?hr ?hp (fun _ hk => hk) trivial (Below.refl _ _) (Nat.le_refl _) (by simp) ?_; (case hd => rfl); (case hg => rfl); (case hr => first | (go_simp; done) | (go_simp; rfl)); (case hp => exact (Reps.none _ _))
        intro v307 w12 ho13 hb hg_ hnew_
        clear hg_ hnew_
        (first | rw [← Ny306.out] at ho13 | (simp only [Int.reduceToNat] at ho13; rw [← Ny306.out] at ho13))
        have n0_ := Aside0.mk (Kd.R_elder' (by (with_reducible repeat (first | apply Kd.R_alloc | apply Kd.R_drewN | apply Kd.R_drew)); exact HO305.out) (Kd.R_base ho13) hb)
        have n1_ := Aside0.mk (Kd.R_lower (Kd.R_new' ho13 (Kd.R_lt (by (with_reducible repeat (first | apply Kd.R_alloc | apply Kd.R_drewN | apply Kd.R_drew)); exact HO305.out))) (below_size (bl_ HB.out)))
        have n2_ := Aside0.mk (blk_below (bk_ BK298.out) hb)
        have n3_ := Aside0.mk (blk_below (bk_ BK299.out) hb)
        have n4_ := Aside0.mk (blk_below (bk_ BK312.out) hb)
        have n5_ := Aside0.mk (below_step (bl_ HB.out) hb)
        clear HO305 BK298 BK299 BK312 HB
        have HO305 := n0_
        have HO308 := n1_
        have BK298 := n2_
        have BK299 := n3_
        have BK312 := n4_
        have HB := n5_
        clear n0_ n1_ n2_ n3_ n4_ n5_ hb ho13
        refine hK.out _ _ ⟨(blk_cell BK298.out 0).trans rfl, (blk_cell BK298.out 1).trans rfl, (blk_cell BK298.out 2).trans rfl⟩ (fun hHeld => ?_)
        clear hK K
        refine norm_ (a' := ?_) ?_ ?_
        rotate_left
        ·
         show Act.put _ (some 9) _ = _
         simp only [Act.put, List.setIfInBounds_toArray, List.set_cons_zero, List.set_cons_succ, i64_w, i32_w]
         rfl
        exact norm_ (by first | (simp only [putAll, Act.put, List.setIfInBounds_toArray, List.set_cons_zero, List.set_cons_succ]; done) | (simp only [putAll, Act.put, List.setIfInBounds_toArray, List.set_cons_zero, List.set_cons_succ]; rfl)) (hJ0_3_4_9 (v301, v304, v307, gb312) _ ⟨hHeld, (by (with_reducible repeat (first | apply Kd.R_alloc | apply Kd.R_drewN | apply Kd.R_drew)); exact Kd.R_mono HO305.out (fun _ hk => hk.2)), (by (with_reducible repeat (first | apply Kd.R_alloc | apply Kd.R_drewN | apply Kd.R_drew)); exact Kd.R_mono HO308.out (fun _ hk => hk.2)), (bk_ BK298.out), (bk_ BK299.out), (bk_ BK312.out), GW312.out, GE312.out, NB298_312.out, NB312_298.out, NB299_312.out, NB312_299.out, (bl_ HB.out)⟩)
      ·
       skip
       rintro ⟨v301, v304, v307⟩ w12 ⟨hS_, h0_, h1_, h2_, h3_, h4_⟩
       have n0_ : Aside0 (Kd.R (Kd.int .i64) 3 w12 w.heap.size (fun k_ => some k_ ≠ (v307 : Value).ownBlock) v304 y303) := ⟨h0_⟩
       have n1_ : Aside0 (Kd.R (Kd.int .i64) 3 w12 w.heap.size (fun k_ => some k_ ≠ (v304 : Value).ownBlock) v307 y306) := ⟨h1_⟩
       have n2_ : Aside0 (w12.heap[gb298]? = some (.cells #[.slice A0_0 l0_0.length c0_0, .slice A0_1 l0_1.length c0_1, .slice A0_2 l0_2.length c0_2] 25 (0, 0))) := ⟨h2_⟩
       have n3_ : Aside0 (w12.heap[gb299]? = some (.cells #[.slice none 0 0, .slice none 0 0, .slice none 0 0] 25 (0, 0))) := ⟨h3_⟩
       have n4_ : Aside0 (Below w.heap.size w w12) := ⟨h4_⟩
       clear BK298 BK299 HB h0_ h1_ h2_ h3_ h4_
       have HO305 := n0_
       have HO308 := n1_
       have BK298 := n2_
       have BK299 := n3_
       have HB := n4_
       clear n0_ n1_ n2_ n3_ n4_
       have hHeld : w12.cell? ⟨gb298, 0, none⟩ = some (.slice A0_0 l0_0.length c0_0) ∧ w12.cell? ⟨gb298, 1, none⟩ = some (.slice A0_1 l0_1.length c0_1) ∧ w12.cell? ⟨gb298, 2, none⟩ = some (.slice A0_2 l0_2.length c0_2) := hS_
       refine norm_ (a' := ?_) ?_ ?_
       rotate_left
       ·
        simp only [putAll, Act.put, List.setIfInBounds_toArray, List.set_cons_zero, List.set_cons_succ]
        rfl
       refine two_ (i := 7) (j := 9) (Ni := some 12) (Nj := some 3) #[true, true, true, true, true, true, true, true, false, false, false] #[true, true, true, true, true, true, true, false, false, true, false] rfl rfl rfl rfl (two_of HT_.out (by kernel_rfl)) (by decide) (by decide) (fun K hK => ?_) (fun K hK => ?_)
       ·
        skip
        refine Kd.R_append_rows_step (Kd.int .i64) (w0 := w) w.heap.size (by rfl) (.tmp 9) (.tmp 11) 22 3 (.int .i64 0) 8 rfl Try.underlying22 info3 rfl (by decide) (by omega) v307 y306 l0_1 _ _ _ (fun k_ => some k_ ≠ (v304 : Value).ownBlock) (fun _ => False) rfl rfl ?aO ?aR (fun _ _ h => h) (fun _ h => h.elim) ?aF ?aB ?aS ?aL ?_
        (case aR => exact cr_ (Kd.C_below HR0_1.out HB.out))
        (case aB => exact (bl_ HB.out))
        (case aF => exact (fun k_ hk => Kd.fresh' (Kd.R_lt (by (with_reducible repeat (first | apply Kd.R_alloc | apply Kd.R_drewN | apply Kd.R_drew)); exact HO305.out)) k_ hk))
        (case aO => exact (by (with_reducible repeat (first | apply Kd.R_alloc | apply Kd.R_drewN | apply Kd.R_drew)); exact HO308.out))
        (case aS => exact (below_size (bl_ HB.out)))
        (case aL => have := LMc3.out; omega)
        intro v310 w13 ho hb hg hat
        rw [← Ny309.out] at ho
        have n0_ := Aside0.mk (blk_grown (bk_ BK298.out) hg (Kd.R_ne HO308.out BK298.out (by decide)))
        have n1_ := Aside0.mk (blk_grown (bk_ BK299.out) hg (Kd.R_ne HO308.out BK299.out (by decide)))
        have n2_ := Aside0.mk (Kd.R_after (ok := (fun _ => True)) (by (with_reducible repeat (first | apply Kd.R_alloc | apply Kd.R_drewN | apply Kd.R_drew)); exact Kd.R_mono HO305.out (fun _ hk => ⟨trivial, hk⟩)) hg hat)
        have n3_ := Aside0.mk (hb)
        have n4_ := Aside0.mk (ho)
        clear BK298 BK299 HO305 HB HO308
        have BK298 := n0_
        have BK299 := n1_
        have HO305 := n2_
        have HB := n3_
        have HO311 := n4_
        clear n0_ n1_ n2_ n3_ n4_ ho hb hg hat
        obtain ⟨Ao14, co14, eo14⟩ := Kd.R_slice HO311.out
        (first | subst eo14 | (injection eo14 with f1_ f2_ f3_; have f4_ := f1_.symm; have f5_ := f3_.symm; clear f1_ f2_ f3_; subst f4_; subst f5_))
        obtain ⟨Ao15, co15, eo15⟩ := Kd.R_slice HO305.out
        (first | subst eo15 | (injection eo15 with f1_ f2_ f3_; have f4_ := f1_.symm; have f5_ := f3_.symm; clear f1_ f2_ f3_; subst f4_; subst f5_))
        refine hK.out _ _ ⟨(blk_cell BK298.out 0).trans rfl, (blk_cell BK298.out 1).trans rfl, (blk_cell BK298.out 2).trans rfl⟩ (fun hHeld => ?_)
        clear hK K
        refine norm_ (a' := ?_) ?_ ?_
        rotate_left
        ·
         show Act.put _ (some 12) _ = _
         simp only [Act.put, List.setIfInBounds_toArray, List.set_cons_zero, List.set_cons_succ, i64_w, i32_w]
         rfl
        refine pure_ (i := 8) (N := some 13) (v := ?_) (a' := ?_) #[true, true, true, true, true, true, true, true, true, false, false] rfl rfl (any_of HT_.out (by kernel_rfl)) (fun _ _ _ h => h) (Or.inl ⟨by rfl, ?_⟩) ?_ ?_
        rotate_left
        ·
         intro w'
         go_simp
         with_reducible rfl
        rotate_left
        ·
         simp only [Act.put, List.setIfInBounds_toArray, List.set_cons_zero, List.set_cons_succ, i64_w, i32_w]
         rfl
        exact norm_ (by first | (simp only [putAll, Act.put, List.setIfInBounds_toArray, List.set_cons_zero, List.set_cons_succ]; done) | (simp only [putAll, Act.put, List.setIfInBounds_toArray, List.set_cons_zero, List.set_cons_succ]; rfl)) (hJ0_3_4_7 (v301, .slice Ao15 y303.length co15, v307, .slice Ao14 y309.length co14) _ ⟨hHeld, (by (with_reducible repeat (first | apply Kd.R_alloc | apply Kd.R_drewN | apply Kd.R_drew)); exact Kd.R_mono HO305.out (fun _ hk => hk.2)), (by (with_reducible repeat (first | apply Kd.R_alloc | apply Kd.R_drewN | apply Kd.R_drew)); exact HO311.out), (bk_ BK298.out), (bk_ BK299.out), (bl_ HB.out)⟩)
       ·
        skip
        refine box_step ?hg (N := 3) ?hd (cs := #[.slice none 0 0, .slice none 0 0, .slice none 0 0]) (t := 25) ?hr ?_; (case hd => rfl); (case hg => rfl); (case hr => first | (go_simp; done) | (go_simp; rfl))
        intro gb312 hg w13 hbox hb
        have n0_ := Aside0.mk (Kd.R_below (by (with_reducible repeat (first | apply Kd.R_alloc | apply Kd.R_drewN | apply Kd.R_drew)); exact HO305.out) hb)
        have n1_ := Aside0.mk (Kd.R_below (by (with_reducible repeat (first | apply Kd.R_alloc | apply Kd.R_drewN | apply Kd.R_drew)); exact HO308.out) hb)
        have n2_ := Aside0.mk (blk_below (bk_ BK298.out) hb)
        have n3_ := Aside0.mk (blk_below (bk_ BK299.out) hb)
        have n4_ := Aside0.mk (below_step (bl_ HB.out) hb)
        have n5_ := Aside0.mk (hbox)
        have n6_ := Aside0.mk (szl_ hg HB.out)
        have n7_ := Aside0.mk (szl_ hg HB.out)
        have n8_ := Aside0.mk (nel_ hg BK298.out)
        have n9_ := Aside0.mk (ner_ hg BK298.out)
        have n10_ := Aside0.mk (nel_ hg BK299.out)
        have n11_ := Aside0.mk (ner_ hg BK299.out)
        clear HO305 HO308 BK298 BK299 HB
        have HO305 := n0_
        have HO308 := n1_
        have BK298 := n2_
        have BK299 := n3_
        have HB := n4_
        have BK312 := n5_
        have GW312 := n6_
        have GE312 := n7_
        have NB298_312 := n8_
        have NB312_298 := n9_
        have NB299_312 := n10_
        have NB312_299 := n11_
        clear n0_ n1_ n2_ n3_ n4_ n5_ n6_ n7_ n8_ n9_ n10_ n11_ hb hbox hg
        refine hK.out _ _ ⟨(blk_cell BK298.out 0).trans rfl, (blk_cell BK298.out 1).trans rfl, (blk_cell BK298.out 2).trans rfl⟩ (fun hHeld => ?_)
        clear hK K
        refine norm_ (a' := ?_) ?_ ?_
        rotate_left
        ·
         show Act.put _ (some 3) _ = _
         simp only [Act.put, List.setIfInBounds_toArray, List.set_cons_zero, List.set_cons_succ, i64_w, i32_w]
         rfl
        exact norm_ (by first | (simp only [putAll, Act.put, List.setIfInBounds_toArray, List.set_cons_zero, List.set_cons_succ]; done) | (simp only [putAll, Act.put, List.setIfInBounds_toArray, List.set_cons_zero, List.set_cons_succ]; rfl)) (hJ0_3_4_9 (v301, v304, v307, gb312) _ ⟨hHeld, (by (with_reducible repeat (first | apply Kd.R_alloc | apply Kd.R_drewN | apply Kd.R_drew)); exact HO305.out), (by (with_reducible repeat (first | apply Kd.R_alloc | apply Kd.R_drewN | apply Kd.R_drew)); exact HO308.out), (bk_ BK298.out), (bk_ BK299.out), (bk_ BK312.out), GW312.out, GE312.out, NB298_312.out, NB312_298.out, NB299_312.out, NB312_299.out, (bl_ HB.out)⟩)
     ·
      skip
      rintro ⟨v301, v304, v307, gb312⟩ w13 ⟨hS_, h0_, h1_, h2_, h3_, h4_, h5_, h6_, h7_, h8_, h9_, h10_, h11_⟩
      have n0_ : Aside0 (Kd.R (Kd.int .i64) 3 w13 w.heap.size (fun k_ => some k_ ≠ (v307 : Value).ownBlock) v304 y303) := ⟨h0_⟩
      have n1_ : Aside0 (Kd.R (Kd.int .i64) 3 w13 w.heap.size (fun k_ => some k_ ≠ (v304 : Value).ownBlock) v307 y306) := ⟨h1_⟩
      have n2_ : Aside0 (w13.heap[gb298]? = some (.cells #[.slice A0_0 l0_0.length c0_0, .slice A0_1 l0_1.length c0_1, .slice A0_2 l0_2.length c0_2] 25 (0, 0))) := ⟨h2_⟩
      have n3_ : Aside0 (w13.heap[gb299]? = some (.cells #[.slice none 0 0, .slice none 0 0, .slice none 0 0] 25 (0, 0))) := ⟨h3_⟩
      have n4_ : Aside0 (w13.heap[gb312]? = some (.cells #[.slice none 0 0, .slice none 0 0, .slice none 0 0] 25 (0, 0))) := ⟨h4_⟩
      have n5_ : Aside0 (w.heap.size ≤ gb312) := ⟨h5_⟩
      have n6_ : Aside0 (w.heap.size ≤ gb312) := ⟨h6_⟩
      have n7_ : Aside0 (gb298 ≠ gb312) := ⟨h7_⟩
      have n8_ : Aside0 (gb312 ≠ gb298) := ⟨h8_⟩
      have n9_ : Aside0 (gb299 ≠ gb312) := ⟨h9_⟩
      have n10_ : Aside0 (gb312 ≠ gb299) := ⟨h10_⟩
      have n11_ : Aside0 (Below w.heap.size w w13) := ⟨h11_⟩
      clear BK298 BK299 HB h0_ h1_ h2_ h3_ h4_ h5_ h6_ h7_ h8_ h9_ h10_ h11_
      have HO305 := n0_
      have HO308 := n1_
      have BK298 := n2_
      have BK299 := n3_
      have BK312 := n4_
      have GW312 := n5_
      have GE312 := n6_
      have NB298_312 := n7_
      have NB312_298 := n8_
      have NB299_312 := n9_
      have NB312_299 := n10_
      have HB := n11_
      clear n0_ n1_ n2_ n3_ n4_ n5_ n6_ n7_ n8_ n9_ n10_ n11_
      have hHeld : w13.cell? ⟨gb298, 0, none⟩ = some (.slice A0_0 l0_0.length c0_0) ∧ w13.cell? ⟨gb298, 1, none⟩ = some (.slice A0_1 l0_1.length c0_1) ∧ w13.cell? ⟨gb298, 2, none⟩ = some (.slice A0_2 l0_2.length c0_2) := hS_
      refine norm_ (a' := ?_) ?_ ?_
      rotate_left
      ·
       simp only [putAll, Act.put, List.setIfInBounds_toArray, List.set_cons_zero, List.set_cons_succ]
       rfl
      refine one_ (i := 7) (N := some 12) #[true, true, true, true, true, true, true, true, false, true, false] rfl rfl (one_of HT_.out (by kernel_rfl)) (by decide) (fun K hK => ?_)
      refine Kd.R_append_rows_step (Kd.int .i64) (w0 := w) w.heap.size (by rfl) (.tmp 9) (.tmp 11) 22 3 (.int .i64 0) 8 rfl Try.underlying22 info3 rfl (by decide) (by omega) v307 y306 l0_1 _ _ _ (fun k_ => some k_ ≠ (v304 : Value).ownBlock) (fun _ => False) rfl rfl ?aO ?aR (fun _ _ h => h) (fun _ h => h.elim) ?aF ?aB ?aS ?aL ?_
      (case aR => exact cr_ (Kd.C_below HR0_1.out HB.out))
      (case aB => exact (bl_ HB.out))
      (case aF => exact (fun k_ hk => Kd.fresh' (Kd.R_lt (by (with_reducible repeat (first | apply Kd.R_alloc | apply Kd.R_drewN | apply Kd.R_drew)); exact HO305.out)) k_ hk))
      (case aO => exact (by (with_reducible repeat (first | apply Kd.R_alloc | apply Kd.R_drewN | apply Kd.R_drew)); exact HO308.out))
      (case aS => exact (below_size (bl_ HB.out)))
      (case aL => have := LMc3.out; omega)
      intro v310 w14 ho hb hg hat
      rw [← Ny309.out] at ho
      have n0_ := Aside0.mk (blk_grown (bk_ BK298.out) hg (Kd.R_ne HO308.out BK298.out (by decide)))
      have n1_ := Aside0.mk (blk_grown (bk_ BK299.out) hg (Kd.R_ne HO308.out BK299.out (by decide)))
      have n2_ := Aside0.mk (Kd.R_after (ok := (fun _ => True)) (by (with_reducible repeat (first | apply Kd.R_alloc | apply Kd.R_drewN | apply Kd.R_drew)); exact Kd.R_mono HO305.out (fun _ hk => ⟨trivial, hk⟩)) hg hat)
      have n3_ := Aside0.mk (blk_grown (bk_ BK312.out) hg (Kd.R_ne HO308.out BK312.out (by decide)))
      have n4_ := Aside0.mk (hb)
      have n5_ := Aside0.mk (ho)
      clear BK298 BK299 HO305 BK312 HB HO308
      have BK298 := n0_
      have BK299 := n1_
      have HO305 := n2_
      have BK312 := n3_
      have HB := n4_
      have HO311 := n5_
      clear n0_ n1_ n2_ n3_ n4_ n5_ ho hb hg hat
      obtain ⟨Ao15, co15, eo15⟩ := Kd.R_slice HO311.out
      (first | subst eo15 | (injection eo15 with f1_ f2_ f3_; have f4_ := f1_.symm; have f5_ := f3_.symm; clear f1_ f2_ f3_; subst f4_; subst f5_))
      obtain ⟨Ao16, co16, eo16⟩ := Kd.R_slice HO305.out
      (first | subst eo16 | (injection eo16 with f1_ f2_ f3_; have f4_ := f1_.symm; have f5_ := f3_.symm; clear f1_ f2_ f3_; subst f4_; subst f5_))
      refine hK.out _ _ ⟨(blk_cell BK298.out 0).trans rfl, (blk_cell BK298.out 1).trans rfl, (blk_cell BK298.out 2).trans rfl⟩ (fun hHeld => ?_)
      clear hK K
      refine norm_ (a' := ?_) ?_ ?_
      rotate_left
      ·
       show Act.put _ (some 12) _ = _
       simp only [Act.put, List.setIfInBounds_toArray, List.set_cons_zero, List.set_cons_succ, i64_w, i32_w]
       rfl
      refine pure_ (i := 8) (N := some 13) (v := ?_) (a' := ?_) #[true, true, true, true, true, true, true, true, true, true, false] rfl rfl (any_of HT_.out (by kernel_rfl)) (fun _ _ _ h => h) (Or.inl ⟨by rfl, ?_⟩) ?_ ?_
      rotate_left
      ·
       intro w'
       go_simp
       with_reducible rfl
      rotate_left
      ·
       simp only [Act.put, List.setIfInBounds_toArray, List.set_cons_zero, List.set_cons_succ, i64_w, i32_w]
       rfl
      exact norm_ (by first | (simp only [putAll, Act.put, List.setIfInBounds_toArray, List.set_cons_zero, List.set_cons_succ]; done) | (simp only [putAll, Act.put, List.setIfInBounds_toArray, List.set_cons_zero, List.set_cons_succ]; rfl)) (hJ0_3_4_7_9 (v301, .slice Ao16 y303.length co16, v307, .slice Ao15 y309.length co15, gb312) _ ⟨hHeld, (by (with_reducible repeat (first | apply Kd.R_alloc | apply Kd.R_drewN | apply Kd.R_drew)); exact Kd.R_mono HO305.out (fun _ hk => hk.2)), (by (with_reducible repeat (first | apply Kd.R_alloc | apply Kd.R_drewN | apply Kd.R_drew)); exact HO311.out), (bk_ BK298.out), (bk_ BK299.out), (bk_ BK312.out), GW312.out, GE312.out, NB298_312.out, NB312_298.out, NB299_312.out, NB312_299.out, (bl_ HB.out)⟩)
    ·
     skip
     rintro ⟨v301, v304, v307, v310⟩ w15 ⟨hS_, h0_, h1_, h2_, h3_, h4_⟩
     have n0_ : Aside0 (Kd.R (Kd.int .i64) 3 w15 w.heap.size (fun k_ => some k_ ≠ (v310 : Value).ownBlock) v304 y303) := ⟨h0_⟩
     have n1_ : Aside0 (Kd.R (Kd.int .i64) 3 w15 w.heap.size (fun k_ => some k_ ≠ (v304 : Value).ownBlock) v310 y309) := ⟨h1_⟩
     have n2_ : Aside0 (w15.heap[gb298]? = some (.cells #[.slice A0_0 l0_0.length c0_0, .slice A0_1 l0_1.length c0_1, .slice A0_2 l0_2.length c0_2] 25 (0, 0))) := ⟨h2_⟩
     have n3_ : Aside0 (w15.heap[gb299]? = some (.cells #[.slice none 0 0, .slice none 0 0, .slice none 0 0] 25 (0, 0))) := ⟨h3_⟩
     have n4_ : Aside0 (Below w.heap.size w w15) := ⟨h4_⟩
     clear BK298 BK299 HB h0_ h1_ h2_ h3_ h4_
     have HO305 := n0_
     have HO311 := n1_
     have BK298 := n2_
     have BK299 := n3_
     have HB := n4_
     clear n0_ n1_ n2_ n3_ n4_
     have hHeld : w15.cell? ⟨gb298, 0, none⟩ = some (.slice A0_0 l0_0.length c0_0) ∧ w15.cell? ⟨gb298, 1, none⟩ = some (.slice A0_1 l0_1.length c0_1) ∧ w15.cell? ⟨gb298, 2, none⟩ = some (.slice A0_2 l0_2.length c0_2) := hS_
     obtain ⟨Ao16, co16, eo16⟩ := Kd.R_slice HO311.out
     (first | subst eo16 | (injection eo16 with f1_ f2_ f3_; have f4_ := f1_.symm; have f5_ := f3_.symm; clear f1_ f2_ f3_; subst f4_; subst f5_))
     obtain ⟨Ao17, co17, eo17⟩ := Kd.R_slice HO305.out
     (first | subst eo17 | (injection eo17 with f1_ f2_ f3_; have f4_ := f1_.symm; have f5_ := f3_.symm; clear f1_ f2_ f3_; subst f4_; subst f5_))
     refine norm_ (a' := ?_) ?_ ?_
     rotate_left
     ·
      simp only [putAll, Act.put, List.setIfInBounds_toArray, List.set_cons_zero, List.set_cons_succ]
      rfl
     refine one_ (i := 9) (N := some 3) #[true, true, true, true, true, true, true, true, true, true, false] rfl rfl (one_of HT_.out (by kernel_rfl)) (by decide) (fun K hK => ?_)
     refine box_step ?hg (N := 3) ?hd (cs := #[.slice none 0 0, .slice none 0 0, .slice none 0 0]) (t := 25) ?hr ?_; (case hd => rfl); (case hg => rfl); (case hr => first | (go_simp; done) | (go_simp; rfl))
     intro gb312 hg w18 hbox hb
     have n0_ := Aside0.mk (Kd.R_below (by (with_reducible repeat (first | apply Kd.R_alloc | apply Kd.R_drewN | apply Kd.R_drew)); exact HO305.out) hb)
     have n1_ := Aside0.mk (Kd.R_below (by (with_reducible repeat (first | apply Kd.R_alloc | apply Kd.R_drewN | apply Kd.R_drew)); exact HO311.out) hb)
     have n2_ := Aside0.mk (blk_below (bk_ BK298.out) hb)
     have n3_ := Aside0.mk (blk_below (bk_ BK299.out) hb)
     have n4_ := Aside0.mk (below_step (bl_ HB.out) hb)
     have n5_ := Aside0.mk (hbox)
     have n6_ := Aside0.mk (szl_ hg HB.out)
     have n7_ := Aside0.mk (szl_ hg HB.out)
     have n8_ := Aside0.mk (nel_ hg BK298.out)
     have n9_ := Aside0.mk (ner_ hg BK298.out)
     have n10_ := Aside0.mk (nel_ hg BK299.out)
     have n11_ := Aside0.mk (ner_ hg BK299.out)
     clear HO305 HO311 BK298 BK299 HB
     have HO305 := n0_
     have HO311 := n1_
     have BK298 := n2_
     have BK299 := n3_
     have HB := n4_
     have BK312 := n5_
     have GW312 := n6_
     have GE312 := n7_
     have NB298_312 := n8_
     have NB312_298 := n9_
     have NB299_312 := n10_
     have NB312_299 := n11_
     clear n0_ n1_ n2_ n3_ n4_ n5_ n6_ n7_ n8_ n9_ n10_ n11_ hb hbox hg
     refine hK.out _ _ ⟨(blk_cell BK298.out 0).trans rfl, (blk_cell BK298.out 1).trans rfl, (blk_cell BK298.out 2).trans rfl⟩ (fun hHeld => ?_)
     clear hK K
     refine norm_ (a' := ?_) ?_ ?_
     rotate_left
     ·
      show Act.put _ (some 3) _ = _
      simp only [Act.put, List.setIfInBounds_toArray, List.set_cons_zero, List.set_cons_succ, i64_w, i32_w]
      rfl
     exact norm_ (by first | (simp only [putAll, Act.put, List.setIfInBounds_toArray, List.set_cons_zero, List.set_cons_succ]; done) | (simp only [putAll, Act.put, List.setIfInBounds_toArray, List.set_cons_zero, List.set_cons_succ]; rfl)) (hJ0_3_4_7_9 (v301, .slice Ao17 y303.length co17, v307, .slice Ao16 y309.length co16, gb312) _ ⟨hHeld, (by (with_reducible repeat (first | apply Kd.R_alloc | apply Kd.R_drewN | apply Kd.R_drew)); exact HO305.out), (by (with_reducible repeat (first | apply Kd.R_alloc | apply Kd.R_drewN | apply Kd.R_drew)); exact HO311.out), (bk_ BK298.out), (bk_ BK299.out), (bk_ BK312.out), GW312.out, GE312.out, NB298_312.out, NB312_298.out, NB299_312.out, NB312_299.out, (bl_ HB.out)⟩)
   rintro ⟨v301, v304, v307, v310, gb312⟩ w16 ⟨hS_, h0_, h1_, h2_, h3_, h4_, h5_, h6_, h7_, h8_, h9_, h10_, h11_⟩
   have n0_ : Aside0 (Kd.R (Kd.int .i64) 3 w16 w.heap.size (fun k_ => some k_ ≠ (v310 : Value).ownBlock) v304 y303) := ⟨h0_⟩
   have n1_ : Aside0 (Kd.R (Kd.int .i64) 3 w16 w.heap.size (fun k_ => some k_ ≠ (v304 : Value).ownBlock) v310 y309) := ⟨h1_⟩
   have n2_ : Aside0 (w16.heap[gb298]? = some (.cells #[.slice A0_0 l0_0.length c0_0, .slice A0_1 l0_1.length c0_1, .slice A0_2 l0_2.length c0_2] 25 (0, 0))) := ⟨h2_⟩
   have n3_ : Aside0 (w16.heap[gb299]? = some (.cells #[.slice none 0 0, .slice none 0 0, .slice none 0 0] 25 (0, 0))) := ⟨h3_⟩
   have n4_ : Aside0 (w16.heap[gb312]? = some (.cells #[.slice none 0 0, .slice none 0 0, .slice none 0 0] 25 (0, 0))) := ⟨h4_⟩
   have n5_ : Aside0 (w.heap.size ≤ gb312) := ⟨h5_⟩
   have n6_ : Aside0 (w.heap.size ≤ gb312) := ⟨h6_⟩
   have n7_ : Aside0 (gb298 ≠ gb312) := ⟨h7_⟩
   have n8_ : Aside0 (gb312 ≠ gb298) := ⟨h8_⟩
   have n9_ : Aside0 (gb299 ≠ gb312) := ⟨h9_⟩
   have n10_ : Aside0 (gb312 ≠ gb299) := ⟨h10_⟩
   have n11_ : Aside0 (Below w.heap.size w w16) := ⟨h11_⟩
   clear BK298 BK299 HB h0_ h1_ h2_ h3_ h4_ h5_ h6_ h7_ h8_ h9_ h10_ h11_
   have HO305 := n0_
   have HO311 := n1_
   have BK298 := n2_
   have BK299 := n3_
   have BK312 := n4_
   have GW312 := n5_
   have GE312 := n6_
   have NB298_312 := n7_
   have NB312_298 := n8_
   have NB299_312 := n9_
   have NB312_299 := n10_
   have HB := n11_
   clear n0_ n1_ n2_ n3_ n4_ n5_ n6_ n7_ n8_ n9_ n10_ n11_
   have hHeld : w16.cell? ⟨gb298, 0, none⟩ = some (.slice A0_0 l0_0.length c0_0) ∧ w16.cell? ⟨gb298, 1, none⟩ = some (.slice A0_1 l0_1.length c0_1) ∧ w16.cell? ⟨gb298, 2, none⟩ = some (.slice A0_2 l0_2.length c0_2) := hS_
   obtain ⟨Ao17, co17, eo17⟩ := Kd.R_slice HO311.out
   (first | subst eo17 | (injection eo17 with f1_ f2_ f3_; have f4_ := f1_.symm; have f5_ := f3_.symm; clear f1_ f2_ f3_; subst f4_; subst f5_))
   obtain ⟨Ao18, co18, eo18⟩ := Kd.R_slice HO305.out
   (first | subst eo18 | (injection eo18 with f1_ f2_ f3_; have f4_ := f1_.symm; have f5_ := f3_.symm; clear f1_ f2_ f3_; subst f4_; subst f5_))
   refine norm_ (a' := ?_) ?_ ?_
   rotate_left
   ·
    simp only [putAll, Act.put, List.setIfInBounds_toArray, List.set_cons_zero, List.set_cons_succ]
    rfl
   refine one_ (i := 10) (N := none) #[true, true, true, true, true, true, true, true, true, true, true] rfl rfl (one_of HT_.out (by kernel_rfl)) (by decide) (fun K hK => ?_)
   have hs19 : w16.cell? ⟨gb312, 0, none⟩ = some (.slice none 0 0) := (blk_cell BK312.out 0).trans rfl
   have hfs19 := blk_frozen BK312.out 0
   have hns19_0 := NB298_312.out
   have hns19_1 := NB299_312.out
   have hms19_0 := NB312_298.out
   have hms19_1 := NB312_299.out
   have hs20 : w16.cell? ⟨gb312, 1, none⟩ = some (.slice none 0 0) := (blk_cell BK312.out 1).trans rfl
   have hfs20 := blk_frozen BK312.out 1
   have hns20_0 := NB298_312.out
   have hns20_1 := NB299_312.out
   have hms20_0 := NB312_298.out
   have hms20_1 := NB312_299.out
   have hs21 : w16.cell? ⟨gb312, 2, none⟩ = some (.slice none 0 0) := (blk_cell BK312.out 2).trans rfl
   have hfs21 := blk_frozen BK312.out 2
   have hns21_0 := NB298_312.out
   have hns21_1 := NB299_312.out
   have hms21_0 := NB312_298.out
   have hms21_1 := NB312_299.out
   refine skip_ (w1 := ?_) (by rfl) rfl ?_ ?_
   rotate_left
   ·
    go_simp
    rfl
   refine hK.out _ _ ⟨((cell_far (p := ⟨gb312, _, none⟩) NB298_312.out _).trans (((cell_far (p := ⟨gb312, _, none⟩) NB298_312.out _).trans (((cell_far (p := ⟨gb312, _, none⟩) NB298_312.out _).trans (hHeld.1)))))), ((cell_far (p := ⟨gb312, _, none⟩) NB298_312.out _).trans (((cell_far (p := ⟨gb312, _, none⟩) NB298_312.out _).trans (((cell_far (p := ⟨gb312, _, none⟩) NB298_312.out _).trans (hHeld.2.1)))))), ((cell_far (p := ⟨gb312, _, none⟩) NB298_312.out _).trans (((cell_far (p := ⟨gb312, _, none⟩) NB298_312.out _).trans (((cell_far (p := ⟨gb312, _, none⟩) NB298_312.out _).trans (hHeld.2.2))))))⟩ (fun hHeld => ?_)
   clear hK K
   refine done_ (done_of HT_.out (by kernel_rfl)) ?_
   try go_wp2
   go_loopg [4] k (fun kq v4 w' => ∃ (x4_1 : Int) (x313002_1 : List (List Int)) (u313002 : Value), v4 = .int .i64 x4_1 ∧ Aside0 (swashplateref01_Copy.l0 kq x4_1 l0_0 l0_1 l0_2 y303 y309 x313002_1 = some (r1, r2, r3)) ∧ Aside0 (kq ≤ k) ∧ Aside0 (Kd.R (Kd.int .i64) 3 w' w.heap.size (fun k_ => some k_ ≠ ((.slice Ao17 y309.length co17) : Value).ownBlock) (.slice Ao18 y303.length co18) y303) ∧ Aside0 (Kd.R (Kd.int .i64) 3 w' w.heap.size (fun k_ => some k_ ≠ ((.slice Ao18 y303.length co18) : Value).ownBlock) (.slice Ao17 y309.length co17) y309) ∧ Aside0 (Kd.S (Kd.slice 3 (Kd.int .i64)) 22 w' w.heap.size (fun k_ => some k_ ≠ ((.slice Ao18 y303.length co18) : Value).ownBlock ∧ some k_ ≠ ((.slice Ao17 y309.length co17) : Value).ownBlock) u313002 x313002_1) ∧ Aside0 (w'.heap[gb298]? = some (.cells #[(.slice A0_0 l0_0.length c0_0), (.slice A0_1 l0_1.length c0_1), (.slice A0_2 l0_2.length c0_2)] 25 (0, 0))) ∧ Aside0 (w'.heap[gb299]? = some (.cells #[(.slice none 0 0), (.slice none 0 0), (.slice none 0 0)] 25 (0, 0))) ∧ Aside0 (w'.heap[gb312]? = some (.cells #[(.slice Ao18 y303.length co18), (.slice Ao17 y309.length co17), u313002] 25 (0, 0))) ∧ Aside0 (Below w.heap.size w w'))
   case atStart => exact ⟨(0), (([] : List (List Int))), (.slice none 0 0), (by first | rfl | (simp; done) | (simp [*]; done)), H', ⟨Nat.le_refl _⟩, ⟨by (with_reducible repeat (first | apply Kd.R_alloc | apply Kd.R_drewN | apply Kd.R_drew)); exact Kd.R_mono (Kd.R_far (p := ⟨gb312, 2, none⟩) (Kd.R_far (p := ⟨gb312, 1, none⟩) (Kd.R_far (p := ⟨gb312, 0, none⟩) (Kd.R_types HO305.out BK312.out (by decide)) (fun _ hk => hk.2) (.slice Ao18 y303.length co18)) (fun _ hk => hk.2) (.slice Ao17 y309.length co17)) (fun _ hk => hk.2) (.slice none 0 0)) (fun _ hk => hk.1)⟩, ⟨by (with_reducible repeat (first | apply Kd.R_alloc | apply Kd.R_drewN | apply Kd.R_drew)); exact Kd.R_mono (Kd.R_far (p := ⟨gb312, 2, none⟩) (Kd.R_far (p := ⟨gb312, 1, none⟩) (Kd.R_far (p := ⟨gb312, 0, none⟩) (Kd.R_types HO311.out BK312.out (by decide)) (fun _ hk => hk.2) (.slice Ao18 y303.length co18)) (fun _ hk => hk.2) (.slice Ao17 y309.length co17)) (fun _ hk => hk.2) (.slice none 0 0)) (fun _ hk => hk.1)⟩, ⟨by first | exact Kd.S_nil _ _ _ _ _ | exact Kd.N_nil _ _ _ _ _ | exact Kd.V_nil _ _ _ _ _ | exact Kd.Q_nil _ _ _ _ _ | exact Kd.R_nil _ _ _ _ _⟩, ⟨by (with_reducible repeat (first | refine blk_drewN ?_ _ | refine blk_drew ?_ | refine blk_alloc ?_ _)); refine blk_far ?_ NB298_312.out _; (with_reducible repeat (first | refine blk_drewN ?_ _ | refine blk_drew ?_ | refine blk_alloc ?_ _)); refine blk_far ?_ NB298_312.out _; (with_reducible repeat (first | refine blk_drewN ?_ _ | refine blk_drew ?_ | refine blk_alloc ?_ _)); refine blk_far ?_ NB298_312.out _; (with_reducible repeat (first | refine blk_drewN ?_ _ | refine blk_drew ?_ | refine blk_alloc ?_ _)); exact BK298.out⟩, ⟨by (with_reducible repeat (first | refine blk_drewN ?_ _ | refine blk_drew ?_ | refine blk_alloc ?_ _)); refine blk_far ?_ NB299_312.out _; (with_reducible repeat (first | refine blk_drewN ?_ _ | refine blk_drew ?_ | refine blk_alloc ?_ _)); refine blk_far ?_ NB299_312.out _; (with_reducible repeat (first | refine blk_drewN ?_ _ | refine blk_drew ?_ | refine blk_alloc ?_ _)); refine blk_far ?_ NB299_312.out _; (with_reducible repeat (first | refine blk_drewN ?_ _ | refine blk_drew ?_ | refine blk_alloc ?_ _)); exact BK299.out⟩, ⟨by (with_reducible repeat (first | refine blk_drewN ?_ _ | refine blk_drew ?_ | refine blk_alloc ?_ _)); refine blk_put (cs := #[.slice Ao18 y303.length co18, .slice Ao17 y309.length co17, .slice none 0 0]) ?_ 2 _ rfl; (with_reducible repeat (first | refine blk_drewN ?_ _ | refine blk_drew ?_ | refine blk_alloc ?_ _)); refine blk_put (cs := #[.slice Ao18 y303.length co18, .slice none 0 0, .slice none 0 0]) ?_ 1 _ rfl; (with_reducible repeat (first | refine blk_drewN ?_ _ | refine blk_drew ?_ | refine blk_alloc ?_ _)); refine blk_put (cs := #[.slice none 0 0, .slice none 0 0, .slice none 0 0]) ?_ 0 _ rfl; (with_reducible repeat (first | refine blk_drewN ?_ _ | refine blk_drew ?_ | refine blk_alloc ?_ _)); exact BK312.out⟩, ⟨bl_ HB.out⟩⟩
   case round =>
    clear H'
    try clear c2
    try clear p2
    try clear c3
    obtain ⟨x4_1, x313002_1, u313002, rfl, HA, HK1, HO_313000, HO_313001, HO_313002, BK298, BK299, BK312, HB⟩ := hrel
    cases gk with
    | zero => exact absurd HA.out (by simp [swashplateref01_Copy.l0])
    | succ k1 =>
     have H := HA.out
     clear HA
     simp only [swashplateref01_Copy.l0] at H
     by_cases c22 : x4_1 < (l0_2.length : Int)
     ·
      rw [if_pos c22] at H
      have c22b0 : decide (x4_1 < (l0_2.length : Int)) = true := decide_eq_true c22
      clear c22
      obtain ⟨y313, hy313⟩ : ∃ y_ : List Int, y_ = (([] : List Int)) := ⟨_, rfl⟩
      replace H : (if 0 ≤ x4_1 then (if y313.length + (rd_L3 l0_2 x4_1).length < 17592186044416 then (if x313002_1.length < 5864062014805 then (swashplateref01_Copy.l0 k1 (wrap64 (x4_1 + 1)) l0_0 l0_1 l0_2 y303 y309 (x313002_1 ++ [(y313 ++ (rd_L3 l0_2 x4_1))])) else (none)) else (none)) else (none)) = some (r1, r2, r3) := by first | (rw [hy313]; with_reducible exact H) | (have H2_ := (Option.bind_some _ _).symm.trans H; rw [hy313]; with_reducible exact H2_) | (have H2_ := (Option.bind_some _ _).symm.trans H; with_reducible exact H2_) | with_reducible exact H | (rw [hy313]; exact H) | exact H
      have Ny313 := Aside0.mk hy313
      clear hy313
      by_cases c23 : 0 ≤ x4_1
      ·
       rw [if_pos c23] at H
       have c23b0 : decide (0 ≤ x4_1) = true := decide_eq_true c23
       clear c23
       by_cases c24 : y313.length + (rd_L3 l0_2 x4_1).length < 17592186044416
       ·
        rw [if_pos c24] at H
        have LMc24 := Aside0.mk c24
        clear c24
        obtain ⟨y317, hy317⟩ : ∃ y_ : List Int, y_ = (y313 ++ (rd_L3 l0_2 x4_1)) := ⟨_, rfl⟩
        replace H : (if x313002_1.length < 5864062014805 then (swashplateref01_Copy.l0 k1 (wrap64 (x4_1 + 1)) l0_0 l0_1 l0_2 y303 y309 (x313002_1 ++ [y317])) else (none)) = some (r1, r2, r3) := by first | (rw [hy317]; with_reducible exact H) | (have H2_ := (Option.bind_some _ _).symm.trans H; rw [hy317]; with_reducible exact H2_) | (have H2_ := (Option.bind_some _ _).symm.trans H; with_reducible exact H2_) | with_reducible exact H | (rw [hy317]; exact H) | exact H
        have Ny317 := Aside0.mk hy317
        clear hy317
        by_cases c25 : x313002_1.length < 5864062014805
        ·
         rw [if_pos c25] at H
         have LMc25 := Aside0.mk c25
         clear c25
         obtain ⟨y320, hy320⟩ : ∃ y_ : List (List Int), y_ = (x313002_1 ++ [y317]) := ⟨_, rfl⟩
         replace H : (swashplateref01_Copy.l0 k1 (wrap64 (x4_1 + 1)) l0_0 l0_1 l0_2 y303 y309 y320) = some (r1, r2, r3) := by first | (rw [hy320]; with_reducible exact H) | (have H2_ := (Option.bind_some _ _).symm.trans H; rw [hy320]; with_reducible exact H2_) | (have H2_ := (Option.bind_some _ _).symm.trans H; with_reducible exact H2_) | with_reducible exact H | (rw [hy320]; exact H) | exact H
         have Ny320 := Aside0.mk hy320
         clear hy320
         have H' := Aside0.mk H
         clear H
         have hnb26 := NB298_299.out
         have hnc26 := NB299_298.out
         have hnb27 := NB298_312.out
         have hnc27 := NB312_298.out
         have hcz28_0 : wr.cell? ⟨gb298, 0, none⟩ = some (.slice A0_0 l0_0.length c0_0) := (blk_cell BK298.out 0).trans rfl
         have hcz28_1 : wr.cell? ⟨gb298, 1, none⟩ = some (.slice A0_1 l0_1.length c0_1) := (blk_cell BK298.out 1).trans rfl
         have hcz28_2 : wr.cell? ⟨gb298, 2, none⟩ = some (.slice A0_2 l0_2.length c0_2) := (blk_cell BK298.out 2).trans rfl
         have hfz28_0 := blk_frozen BK298.out 0
         have hfz28_1 := blk_frozen BK298.out 1
         have hfz28_2 := blk_frozen BK298.out 2
         try go_wp2
         have n0_ := Aside0.mk (Kd.R_drew HO_313000.out)
         have n1_ := Aside0.mk (Kd.R_drew HO_313001.out)
         have n2_ := Aside0.mk (Kd.S_drew HO_313002.out)
         have n3_ := Aside0.mk (blk_drew BK298.out)
         have n4_ := Aside0.mk (blk_drew BK299.out)
         have n5_ := Aside0.mk (blk_drew BK312.out)
         have n6_ := Aside0.mk (below_drew1 HB.out)
         clear HO_313000 HO_313001 HO_313002 BK298 BK299 BK312 HB
         have HO_313000 := n0_
         have HO_313001 := n1_
         have HO_313002 := n2_
         have BK298 := n3_
         have BK299 := n4_
         have BK312 := n5_
         have HB := n6_
         clear n0_ n1_ n2_ n3_ n4_ n5_ n6_
         have p316 : 0 ≤ (x4_1 : Int) := of_decide_eq_true (by first | (with_reducible assumption) | assumption)
         have q316 : x4_1 < (l0_2.length : Int) := of_decide_eq_true (by first | (with_reducible assumption) | assumption)
         obtain ⟨ad316, A316_0, c316_0, e316, hx316_0, hl316_0, hi316_0⟩ := at_L3 HR0_2.out x4_1 p316 q316
         have hw316_0 := hx316_0
         cases e316
         replace hx316_0 := (HB.out.cell (World.block_lt_of_cell? w _ hx316_0)).trans hx316_0
         have HR316_0 := Aside0.mk hi316_0
         have HC316_0 := Aside0.mk hl316_0
         clear hi316_0 hl316_0
         replace p316 := eq_true p316
         replace q316 := eq_true q316
         refine start_ (n := 13) (S := fun w' => w'.cell? ⟨gb312, 0, none⟩ = some (.slice Ao18 y303.length co18) ∧ w'.cell? ⟨gb312, 1, none⟩ = some (.slice Ao17 y309.length co17) ∧ w'.cell? ⟨gb312, 2, none⟩ = some (u313002) ∧ w'.cell? ⟨gb298, 0, none⟩ = some (.slice A0_0 l0_0.length c0_0) ∧ w'.cell? ⟨gb298, 1, none⟩ = some (.slice A0_1 l0_1.length c0_1) ∧ w'.cell? ⟨gb298, 2, none⟩ = some (.slice (some ad316) l0_2.length c0_2) ∧ w'.cell? (ad316.add (x4_1).toNat) = some (.slice A316_0 (rd_L3 l0_2 x4_1).length c316_0)) (ds := [12]) #[false, false, false, false, false, false, false, false, false, false, false, false, false] (by kernel_rfl) rfl rfl ⟨(blk_cell BK312.out 0).trans rfl, (blk_cell BK312.out 1).trans rfl, (blk_cell BK312.out 2).trans rfl, (blk_cell BK298.out 0).trans rfl, (blk_cell BK298.out 1).trans rfl, (blk_cell BK298.out 2).trans rfl, ((HB.out.cell (World.block_lt_of_cell? w _ hw316_0)).trans hw316_0)⟩ (fun hHeld => ?_); refine with_tabW swashplateref01_Copy.tab5 swashplateref01_Copy.bits5 (fun HT_ HW_ => ?_)
         generalize wr.drew = w29 at HO_313000 HO_313001 HO_313002 BK298 BK299 BK312 HB HR316_0 hx316_0 hHeld ⊢
         refine pure_ (i := 0) (N := some 21) (v := ?_) (a' := ?_) #[true, false, false, false, false, false, false, false, false, false, false, false, false] rfl rfl (any_of HT_.out (by kernel_rfl)) (fun _ _ _ h => h) (Or.inl ⟨by rfl, ?_⟩) ?_ ?_
         rotate_left
         ·
          intro w'
          go_simp
          with_reducible rfl
         rotate_left
         ·
          simp only [Act.put, List.setIfInBounds_toArray, List.set_cons_zero, List.set_cons_succ, i64_w, i32_w]
          rfl
         refine pure_ (i := 3) (N := some 24) (v := ?_) (a' := ?_) #[true, false, false, true, false, false, false, false, false, false, false, false, false] rfl rfl (any_of HT_.out (by kernel_rfl)) (fun _ _ _ h => h) (Or.inl ⟨by rfl, ?_⟩) ?_ ?_
         rotate_left
         ·
          intro w'
          go_simp
          with_reducible rfl
         rotate_left
         ·
          simp only [Act.put, List.setIfInBounds_toArray, List.set_cons_zero, List.set_cons_succ, i64_w, i32_w]
          rfl
         refine pure_ (i := 5) (N := some 26) (v := ?_) (a' := ?_) #[true, false, false, true, false, true, false, false, false, false, false, false, false] rfl rfl (any_of HT_.out (by kernel_rfl)) (fun _ _ _ h => h) (Or.inl ⟨by rfl, ?_⟩) ?_ ?_
         rotate_left
         ·
          intro w'
          go_simp
          with_reducible rfl
         rotate_left
         ·
          simp only [Act.put, List.setIfInBounds_toArray, List.set_cons_zero, List.set_cons_succ, i64_w, i32_w]
          rfl
         refine take_ (i := 1) (N := some 22) (v := ?_) (a' := ?_) #[true, true, false, true, false, true, false, false, false, false, false, false, false] rfl rfl (take_ofW HT_.out HW_.out (by kernel_rfl)) (fun _ _ _ h => h) (Or.inl ⟨by rfl, ?_⟩) hHeld ?_ ?_
         rotate_left
         ·
          rintro w' ⟨s0, s1, s2, s3, s4, s5, s6⟩
          go_simp
          with_reducible rfl
         rotate_left
         ·
          simp only [Act.put, List.setIfInBounds_toArray, List.set_cons_zero, List.set_cons_succ, i64_w, i32_w]
          rfl
         refine take_ (i := 4) (N := some 25) (v := ?_) (a' := ?_) #[true, true, false, true, true, true, false, false, false, false, false, false, false] rfl rfl (take_ofW HT_.out HW_.out (by kernel_rfl)) (fun _ _ _ h => h) (Or.inl ⟨by rfl, ?_⟩) hHeld ?_ ?_
         rotate_left
         ·
          rintro w' ⟨s0, s1, s2, s3, s4, s5, s6⟩
          go_simp
          with_reducible rfl
         rotate_left
         ·
          simp only [Act.put, List.setIfInBounds_toArray, List.set_cons_zero, List.set_cons_succ, i64_w, i32_w]
          rfl
         refine pure_ (i := 6) (N := some 27) (v := ?_) (a' := ?_) #[true, true, false, true, true, true, true, false, false, false, false, false, false] rfl rfl (any_of HT_.out (by kernel_rfl)) (fun _ _ _ h => h) (Or.inl ⟨by rfl, ?_⟩) ?_ ?_
         rotate_left
         ·
          intro w'
          go_simp
          with_reducible rfl
         rotate_left
         ·
          simp only [Act.put, List.setIfInBounds_toArray, List.set_cons_zero, List.set_cons_succ, i64_w, i32_w]
          rfl
         refine take_ (i := 7) (N := some 28) (v := ?_) (a' := ?_) #[true, true, false, true, true, true, true, true, false, false, false, false, false] rfl rfl (take_ofW HT_.out HW_.out (by kernel_rfl)) (fun _ _ _ h => h) (Or.inl ⟨by rfl, ?_⟩) hHeld ?_ ?_
         rotate_left
         ·
          rintro w' ⟨s0, s1, s2, s3, s4, s5, s6⟩
          go_simp
          with_reducible rfl
         rotate_left
         ·
          simp only [Act.put, List.setIfInBounds_toArray, List.set_cons_zero, List.set_cons_succ, i64_w, i32_w]
          rfl
         refine one_ (i := 2) (N := some 23) #[true, true, true, true, true, true, true, true, false, false, false, false, false] rfl rfl (one_of HT_.out (by kernel_rfl)) (by decide) (fun K hK => ?_)
         refine Kd.R_lit_step (Kd.int .i64) _ 3 ?hg (N := 23) ?hd (xs := ([] : List Int)) (inner := []) (ok := fun _ => True) (okp := fun _ => True) ?hr ?hp (fun _ hk => hk) trivial (Below.refl _ _) (Nat.le_refl _) (by simp) ?_; (case hd => rfl); (case hg => rfl); (case hr => first | (go_simp; done) | (go_simp; rfl)); (case hp => exact (Reps.none _ _))
         intro v314 w30 ho31 hb hg_ hnew_
         clear hg_ hnew_
         (first | rw [← Ny313.out] at ho31 | (simp only [Int.reduceToNat] at ho31; rw [← Ny313.out] at ho31))
         have n0_ := Aside0.mk (Kd.R_elder' (by (with_reducible repeat (first | apply Kd.R_alloc | apply Kd.R_drewN | apply Kd.R_drew)); exact HO_313000.out) (Kd.R_base ho31) hb)
         have n1_ := Aside0.mk (Kd.R_elder' (by (with_reducible repeat (first | apply Kd.R_alloc | apply Kd.R_drewN | apply Kd.R_drew)); exact HO_313001.out) (Kd.R_base ho31) hb)
         have n2_ := Aside0.mk (Kd.S_elder' (by (with_reducible repeat (first | apply Kd.S_alloc | apply Kd.S_drewN | apply Kd.S_drew)); exact HO_313002.out) (Kd.R_base ho31) hb)
         have n3_ := Aside0.mk (Kd.R_lower (Kd.R_new' (Kd.R_new' ho31 (Kd.R_lt (by (with_reducible repeat (first | apply Kd.R_alloc | apply Kd.R_drewN | apply Kd.R_drew)); exact HO_313000.out))) (Kd.R_lt (by (with_reducible repeat (first | apply Kd.R_alloc | apply Kd.R_drewN | apply Kd.R_drew)); exact HO_313001.out))) (below_size (bl_ HB.out)))
         have n4_ := Aside0.mk (blk_below (bk_ BK298.out) hb)
         have n5_ := Aside0.mk (blk_below (bk_ BK299.out) hb)
         have n6_ := Aside0.mk (blk_below (bk_ BK312.out) hb)
         have n7_ := Aside0.mk (below_step (bl_ HB.out) hb)
         clear HO_313000 HO_313001 HO_313002 BK298 BK299 BK312 HB
         have HO_313000 := n0_
         have HO_313001 := n1_
         have HO_313002 := n2_
         have HO315 := n3_
         have BK298 := n4_
         have BK299 := n5_
         have BK312 := n6_
         have HB := n7_
         clear n0_ n1_ n2_ n3_ n4_ n5_ n6_ n7_ hb ho31
         refine hK.out _ _ ⟨(blk_cell BK312.out 0).trans rfl, (blk_cell BK312.out 1).trans rfl, (blk_cell BK312.out 2).trans rfl, (blk_cell BK298.out 0).trans rfl, (blk_cell BK298.out 1).trans rfl, (blk_cell BK298.out 2).trans rfl, ((HB.out.cell (World.block_lt_of_cell? w _ hw316_0)).trans hw316_0)⟩ (fun hHeld => ?_)
         clear hK K
         refine norm_ (a' := ?_) ?_ ?_
         rotate_left
         ·
          show Act.put _ (some 23) _ = _
          simp only [Act.put, List.setIfInBounds_toArray, List.set_cons_zero, List.set_cons_succ, i64_w, i32_w]
          rfl
         refine one_ (i := 8) (N := some 29) #[true, true, true, true, true, true, true, true, true, false, false, false, false] rfl rfl (one_of HT_.out (by kernel_rfl)) (by decide) (fun K hK => ?_)
         refine Kd.R_append_rows_step (Kd.int .i64) (w0 := w) w.heap.size (by rfl) (.tmp 23) (.tmp 28) 22 3 (.int .i64 0) 8 rfl Try.underlying22 info3 rfl (by decide) (by omega) v314 y313 (rd_L3 l0_2 x4_1) _ _ _ (fun k_ => some k_ ≠ (.slice Ao18 y303.length co18 : Value).ownBlock ∧ some k_ ≠ (.slice Ao17 y309.length co17 : Value).ownBlock) (fun _ => False) rfl rfl ?aO ?aR (fun _ _ h => h) (fun _ h => h.elim) ?aF ?aB ?aS ?aL ?_
         (case aR => exact cr_ (Kd.C_below HR316_0.out HB.out))
         (case aB => exact (bl_ HB.out))
         (case aF => exact (fun k_ hk => ⟨Kd.fresh' (Kd.R_lt (by (with_reducible repeat (first | apply Kd.R_alloc | apply Kd.R_drewN | apply Kd.R_drew)); exact HO_313000.out)) k_ hk, Kd.fresh' (Kd.R_lt (by (with_reducible repeat (first | apply Kd.R_alloc | apply Kd.R_drewN | apply Kd.R_drew)); exact HO_313001.out)) k_ hk⟩))
         (case aO => exact (by (with_reducible repeat (first | apply Kd.R_alloc | apply Kd.R_drewN | apply Kd.R_drew)); exact Kd.R_mono HO315.out (fun _ hk => ⟨hk.1.2, hk.2⟩)))
         (case aS => exact (below_size (bl_ HB.out)))
         (case aL => have := LMc24.out; omega)
         intro v318 w32 ho hb hg hat
         rw [← Ny317.out] at ho
         have n0_ := Aside0.mk (Kd.R_after (ok := (fun k_ => some k_ ≠ (.slice Ao17 y309.length co17 : Value).ownBlock)) (by (with_reducible repeat (first | apply Kd.R_alloc | apply Kd.R_drewN | apply Kd.R_drew)); exact HO_313000.out) hg hat)
         have n1_ := Aside0.mk (Kd.R_after (ok := (fun k_ => some k_ ≠ (.slice Ao18 y303.length co18 : Value).ownBlock)) (by (with_reducible repeat (first | apply Kd.R_alloc | apply Kd.R_drewN | apply Kd.R_drew)); exact HO_313001.out) hg hat)
         have n2_ := Aside0.mk (Kd.S_after (ok := (fun k_ => some k_ ≠ (.slice Ao18 y303.length co18 : Value).ownBlock ∧ some k_ ≠ (.slice Ao17 y309.length co17 : Value).ownBlock)) (by (with_reducible repeat (first | apply Kd.S_alloc | apply Kd.S_drewN | apply Kd.S_drew)); exact HO_313002.out) hg hat)
         have n3_ := Aside0.mk (blk_grown (bk_ BK298.out) hg (Kd.R_ne HO315.out BK298.out (by decide)))
         have n4_ := Aside0.mk (blk_grown (bk_ BK299.out) hg (Kd.R_ne HO315.out BK299.out (by decide)))
         have n5_ := Aside0.mk (blk_grown (bk_ BK312.out) hg (Kd.R_ne HO315.out BK312.out (by decide)))
         have n6_ := Aside0.mk (hb)
         have n7_ := Aside0.mk (ho)
         clear HO_313000 HO_313001 HO_313002 BK298 BK299 BK312 HB HO315
         have HO_313000 := n0_
         have HO_313001 := n1_
         have HO_313002 := n2_
         have BK298 := n3_
         have BK299 := n4_
         have BK312 := n5_
         have HB := n6_
         have HO319 := n7_
         clear n0_ n1_ n2_ n3_ n4_ n5_ n6_ n7_ ho hb hg hat
         obtain ⟨Ao34, co34, eo34⟩ := Kd.R_slice HO319.out
         (first | subst eo34 | (injection eo34 with f1_ f2_ f3_; have f4_ := f1_.symm; have f5_ := f3_.symm; clear f1_ f2_ f3_; subst f4_; subst f5_))
         refine hK.out _ _ ⟨(blk_cell BK312.out 0).trans rfl, (blk_cell BK312.out 1).trans rfl, (blk_cell BK312.out 2).trans rfl, (blk_cell BK298.out 0).trans rfl, (blk_cell BK298.out 1).trans rfl, (blk_cell BK298.out 2).trans rfl, ((HB.out.cell (World.block_lt_of_cell? w _ hw316_0)).trans hw316_0)⟩ (fun hHeld => ?_)
         clear hK K
         refine norm_ (a' := ?_) ?_ ?_
         rotate_left
         ·
          show Act.put _ (some 29) _ = _
          simp only [Act.put, List.setIfInBounds_toArray, List.set_cons_zero, List.set_cons_succ, i64_w, i32_w]
          rfl
         refine one_ (i := 9) (N := some 30) #[true, true, true, true, true, true, true, true, true, true, false, false, false] rfl rfl (one_of HT_.out (by kernel_rfl)) (by decide) (fun K hK => ?_)
         refine value_ (w1 := ?_) (v := ?_) (by rfl) rfl ?_ ?_
         rotate_left 2
         ·
          go_simp
          constructor
          ·
           rfl
          ·
           rfl
         refine hK.out _ _ ⟨(blk_cell (blk_alloc BK312.out _) 0).trans rfl, (blk_cell (blk_alloc BK312.out _) 1).trans rfl, (blk_cell (blk_alloc BK312.out _) 2).trans rfl, (blk_cell (blk_alloc BK298.out _) 0).trans rfl, (blk_cell (blk_alloc BK298.out _) 1).trans rfl, (blk_cell (blk_alloc BK298.out _) 2).trans rfl, (World.cell?_alloc_lt _ _ _ (World.block_lt_of_cell? _ _ (((HB.out.cell (World.block_lt_of_cell? w _ hw316_0)).trans hw316_0)))).trans (((HB.out.cell (World.block_lt_of_cell? w _ hw316_0)).trans hw316_0))⟩ (fun hHeld => ?_)
         clear hK K
         refine norm_ (a' := ?_) ?_ ?_
         rotate_left
         ·
          show Act.put _ (some 30) _ = _
          simp only [Act.put, List.setIfInBounds_toArray, List.set_cons_zero, List.set_cons_succ, i64_w, i32_w]
          rfl
         refine one_ (i := 10) (N := some 31) #[true, true, true, true, true, true, true, true, true, true, true, false, false] rfl rfl (one_of HT_.out (by kernel_rfl)) (by decide) (fun K hK => ?_)
         refine Kd.S_append_step (Kd.slice 3 (Kd.int .i64)) (w0 := w) w.heap.size (by rfl) (.tmp 22) (.tmp 30) 23 22 (.slice none 0 0) 24 rfl Try.underlying23 info22 rfl (by decide) (by omega) u313002 x313002_1 y317 [.slice Ao34 y317.length co34] (fun k_ => some k_ ≠ (.slice Ao18 y303.length co18 : Value).ownBlock ∧ some k_ ≠ (.slice Ao17 y309.length co17 : Value).ownBlock) (fun k_ => some k_ = (.slice Ao34 y317.length co34 : Value).ownBlock) rfl rfl ?aP (fun k_ hk_ => ((Kd.R_mono (ok' := fun k_ => ((fun k_ => some k_ ≠ (.slice Ao18 y303.length co18 : Value).ownBlock ∧ some k_ ≠ (.slice Ao17 y309.length co17 : Value).ownBlock)) k_ ∧ some k_ ≠ (u313002 : Value).ownBlock) (Kd.R_apart' (HO319.out) (Kd.S_typed HO_313002.out) (by decide)) (fun k_ hk => ⟨⟨hk.1.1, hk.1.2⟩, hk.2⟩))).1 k_ hk_.symm) ?aF ?aO ?aB ?aS ?aL ?_
         (case aP => exact Kd.M_row (Kd.R_mono (Kd.R_tight rfl (Kd.R_mono (ok' := fun k_ => ((fun k_ => some k_ ≠ (.slice Ao18 y303.length co18 : Value).ownBlock ∧ some k_ ≠ (.slice Ao17 y309.length co17 : Value).ownBlock)) k_ ∧ some k_ ≠ (u313002 : Value).ownBlock) (Kd.R_apart' (HO319.out) (Kd.S_typed HO_313002.out) (by decide)) (fun k_ hk => ⟨⟨hk.1.1, hk.1.2⟩, hk.2⟩))) (fun _ h_ => h_)))
         (case aB => exact (bl_ HB.out))
         (case aF => exact (fun k_ hk => ⟨Kd.fresh' (Kd.R_lt (by (with_reducible repeat (first | apply Kd.R_alloc | apply Kd.R_drewN | apply Kd.R_drew)); exact HO_313000.out)) k_ hk, Kd.fresh' (Kd.R_lt (by (with_reducible repeat (first | apply Kd.R_alloc | apply Kd.R_drewN | apply Kd.R_drew)); exact HO_313001.out)) k_ hk⟩))
         (case aO => exact (by (with_reducible repeat (first | apply Kd.S_alloc | apply Kd.S_drewN | apply Kd.S_drew)); exact Kd.S_mono HO_313002.out (fun k_ hk => ⟨⟨hk.1.1, hk.1.2⟩, fun e_ => hk.2 e_⟩)))
         (case aS => exact (below_size (bl_ HB.out)))
         (case aL => have := LMc25.out; omega)
         intro v321 w33 ho hb hg hat
         rw [← Ny320.out] at ho
         have n0_ := Aside0.mk (Kd.R_over' (by (with_reducible repeat (first | apply Kd.R_alloc | apply Kd.R_drewN | apply Kd.R_drew)); exact HO_313000.out) (Kd.S_typed (by (with_reducible repeat (first | apply Kd.S_alloc | apply Kd.S_drewN | apply Kd.S_drew)); exact HO_313002.out)) (by decide) hg)
         have n1_ := Aside0.mk (Kd.R_over' (by (with_reducible repeat (first | apply Kd.R_alloc | apply Kd.R_drewN | apply Kd.R_drew)); exact HO_313001.out) (Kd.S_typed (by (with_reducible repeat (first | apply Kd.S_alloc | apply Kd.S_drewN | apply Kd.S_drew)); exact HO_313002.out)) (by decide) hg)
         have n2_ := Aside0.mk (blk_grown (bk_ BK298.out) hg (Kd.S_ne HO_313002.out BK298.out (by decide)))
         have n3_ := Aside0.mk (blk_grown (bk_ BK299.out) hg (Kd.S_ne HO_313002.out BK299.out (by decide)))
         have n4_ := Aside0.mk (blk_grown (bk_ BK312.out) hg (Kd.S_ne HO_313002.out BK312.out (by decide)))
         have n5_ := Aside0.mk (hb)
         have n6_ := Aside0.mk (ho)
         clear HO_313000 HO_313001 BK298 BK299 BK312 HB HO_313002 HO319
         have HO_313000 := n0_
         have HO_313001 := n1_
         have BK298 := n2_
         have BK299 := n3_
         have BK312 := n4_
         have HB := n5_
         have HO322 := n6_
         clear n0_ n1_ n2_ n3_ n4_ n5_ n6_ ho hb hg hat
         obtain ⟨Ao35, co35, eo35⟩ := Kd.S_slice HO322.out
         (first | subst eo35 | (injection eo35 with f1_ f2_ f3_; have f4_ := f1_.symm; have f5_ := f3_.symm; clear f1_ f2_ f3_; subst f4_; subst f5_))
         refine hK.out _ _ ⟨(blk_cell BK312.out 0).trans rfl, (blk_cell BK312.out 1).trans rfl, (blk_cell BK312.out 2).trans rfl, (blk_cell BK298.out 0).trans rfl, (blk_cell BK298.out 1).trans rfl, (blk_cell BK298.out 2).trans rfl, ((HB.out.cell (World.block_lt_of_cell? w _ hw316_0)).trans hw316_0)⟩ (fun hHeld => ?_)
         clear hK K
         refine norm_ (a' := ?_) ?_ ?_
         rotate_left
         ·
          show Act.put _ (some 31) _ = _
          simp only [Act.put, List.setIfInBounds_toArray, List.set_cons_zero, List.set_cons_succ, i64_w, i32_w]
          rfl
         refine pure_ (i := 11) (N := some 32) (v := ?_) (a' := ?_) #[true, true, true, true, true, true, true, true, true, true, true, true, false] rfl rfl (any_of HT_.out (by kernel_rfl)) (fun _ _ _ h => h) (Or.inl ⟨by rfl, ?_⟩) ?_ ?_
         rotate_left
         ·
          intro w'
          go_simp
          with_reducible rfl
         rotate_left
         ·
          simp only [Act.put, List.setIfInBounds_toArray, List.set_cons_zero, List.set_cons_succ, i64_w, i32_w]
          rfl
         refine last_ (i := 12) (N := none) #[true, true, true, true, true, true, true, true, true, true, true, true, true] rfl rfl (one_of HT_.out (by kernel_rfl)) (by decide) (fun K hK => ?_)
         have hs36 : w33.cell? ⟨gb312, 2, none⟩ = some (u313002) := (blk_cell BK312.out 2).trans rfl
         have hfs36 := blk_frozen BK312.out 2
         have hns36_0 := NB298_312.out
         have hns36_1 := NB299_312.out
         have hms36_0 := NB312_298.out
         have hms36_1 := NB312_299.out
         refine skip_ (w1 := ?_) (by rfl) rfl ?_ ?_
         rotate_left
         ·
          go_simp
          rfl
         refine hK.out _ _ ?_
         clear hK K
         refine done_ (done_of HT_.out (by kernel_rfl)) ?_
         try go_wp2
         go_roundg k1
         case measure => have := HK1.out; omega
         case rel => exact ⟨(wrap64 (x4_1 + 1)), (y320), (.slice Ao35 y320.length co35), (by first | rfl | (simp; done) | (simp [*]; done)), H', ⟨by have := HK1.out; omega⟩, ⟨by (with_reducible repeat (first | apply Kd.R_alloc | apply Kd.R_drewN | apply Kd.R_drew)); exact Kd.R_mono (Kd.R_far (p := ⟨gb312, 2, none⟩) (Kd.R_types HO_313000.out BK312.out (by decide)) (fun _ hk => hk.2) (.slice Ao35 y320.length co35)) (fun _ hk => hk.1.1)⟩, ⟨by (with_reducible repeat (first | apply Kd.R_alloc | apply Kd.R_drewN | apply Kd.R_drew)); exact Kd.R_mono (Kd.R_far (p := ⟨gb312, 2, none⟩) (Kd.R_types HO_313001.out BK312.out (by decide)) (fun _ hk => hk.2) (.slice Ao35 y320.length co35)) (fun _ hk => hk.1.1)⟩, ⟨by (with_reducible repeat (first | apply Kd.S_alloc | apply Kd.S_drewN | apply Kd.S_drew)); exact Kd.S_mono (Kd.S_far (p := ⟨gb312, 2, none⟩) (Kd.S_types HO322.out BK312.out (by decide)) (fun _ hk => hk.2) (.slice Ao35 y320.length co35)) (fun _ hk => ⟨hk.1.1, hk.1.2⟩)⟩, ⟨by (with_reducible repeat (first | refine blk_drewN ?_ _ | refine blk_drew ?_ | refine blk_alloc ?_ _)); refine blk_far ?_ NB298_312.out _; (with_reducible repeat (first | refine blk_drewN ?_ _ | refine blk_drew ?_ | refine blk_alloc ?_ _)); exact BK298.out⟩, ⟨by (with_reducible repeat (first | refine blk_drewN ?_ _ | refine blk_drew ?_ | refine blk_alloc ?_ _)); refine blk_far ?_ NB299_312.out _; (with_reducible repeat (first | refine blk_drewN ?_ _ | refine blk_drew ?_ | refine blk_alloc ?_ _)); exact BK299.out⟩, ⟨by (with_reducible repeat (first | refine blk_drewN ?_ _ | refine blk_drew ?_ | refine blk_alloc ?_ _)); refine blk_put (cs := #[.slice Ao18 y303.length co18, .slice Ao17 y309.length co17, u313002]) ?_ 2 _ rfl; (with_reducible repeat (first | refine blk_drewN ?_ _ | refine blk_drew ?_ | refine blk_alloc ?_ _)); exact BK312.out⟩, ⟨bl_ HB.out⟩⟩
        ·
         rw [if_neg c25] at H
         exact absurd H (by simp)
       ·
        rw [if_neg c24] at H
        exact absurd H (by simp)
      ·
       rw [if_neg c23] at H
       exact absurd H (by simp)
     ·
      rw [if_neg c22] at H
      have c22b0 : decide (x4_1 < (l0_2.length : Int)) = false := decide_eq_false c22
      clear c22
      simp only [Option.some.injEq, Prod.mk.injEq] at H
      obtain ⟨rfl, rfl, rfl⟩ := H
      have hnb37 := NB298_299.out
      have hnc37 := NB299_298.out
      have hnb38 := NB298_312.out
      have hnc38 := NB312_298.out
      have hcz39_0 : wr.cell? ⟨gb298, 0, none⟩ = some (.slice A0_0 l0_0.length c0_0) := (blk_cell BK298.out 0).trans rfl
      have hcz39_1 : wr.cell? ⟨gb298, 1, none⟩ = some (.slice A0_1 l0_1.length c0_1) := (blk_cell BK298.out 1).trans rfl
      have hcz39_2 : wr.cell? ⟨gb298, 2, none⟩ = some (.slice A0_2 l0_2.length c0_2) := (blk_cell BK298.out 2).trans rfl
      have hfz39_0 := blk_frozen BK298.out 0
      have hfz39_1 := blk_frozen BK298.out 1
      have hfz39_2 := blk_frozen BK298.out 2
      have hnb40 := NB312_299.out
      have hnc40 := NB299_312.out
      have hcz41_0 : wr.cell? ⟨gb312, 0, none⟩ = some (.slice Ao18 y303.length co18) := (blk_cell BK312.out 0).trans rfl
      have hcz41_1 : wr.cell? ⟨gb312, 1, none⟩ = some (.slice Ao17 y309.length co17) := (blk_cell BK312.out 1).trans rfl
      have hcz41_2 : wr.cell? ⟨gb312, 2, none⟩ = some (u313002) := (blk_cell BK312.out 2).trans rfl
      have hfz41_0 := blk_frozen BK312.out 0
      have hfz41_1 := blk_frozen BK312.out 1
      have hfz41_2 := blk_frozen BK312.out 2
      have hcz42_0 : wr.cell? ⟨gb299, 0, none⟩ = some (.slice none 0 0) := (blk_cell BK299.out 0).trans rfl
      have hcz42_1 : wr.cell? ⟨gb299, 1, none⟩ = some (.slice none 0 0) := (blk_cell BK299.out 1).trans rfl
      have hcz42_2 : wr.cell? ⟨gb299, 2, none⟩ = some (.slice none 0 0) := (blk_cell BK299.out 2).trans rfl
      have hfz42_0 := blk_frozen BK299.out 0
      have hfz42_1 := blk_frozen BK299.out 1
      have hfz42_2 := blk_frozen BK299.out 2
      obtain ⟨Ao43, co43, eo43⟩ := Kd.S_slice HO_313002.out
      subst eo43
      go_wp2
      refine bodyPost_ret (results_cell_row rfl _ _ gb299 25 #[.slice Ao18 y303.length co18, .slice Ao17 y309.length co17, .slice Ao43 x313002_1.length co43] (0, 0) _ rfl (by (with_reducible repeat (first | refine blk_drewN ?_ _ | refine blk_drew ?_ | refine blk_alloc ?_ _)); refine blk_put (cs := #[.slice Ao18 y303.length co18, .slice Ao17 y309.length co17, .slice none 0 0]) ?_ 2 _ rfl; (with_reducible repeat (first | refine blk_drewN ?_ _ | refine blk_drew ?_ | refine blk_alloc ?_ _)); refine blk_put (cs := #[.slice Ao18 y303.length co18, .slice none 0 0, .slice none 0 0]) ?_ 1 _ rfl; (with_reducible repeat (first | refine blk_drewN ?_ _ | refine blk_drew ?_ | refine blk_alloc ?_ _)); refine blk_put (cs := #[.slice none 0 0, .slice none 0 0, .slice none 0 0]) ?_ 0 _ rfl; (with_reducible repeat (first | refine blk_drewN ?_ _ | refine blk_drew ?_ | refine blk_alloc ?_ _)); exact BK299.out) Try.underlying25 rfl (by kernel_rfl)) rfl ?_
      exact ⟨_, _, _, by first | rfl | (simp [errW_none, errW_some] <;> rfl) | (simp [*, errW_none, errW_some] <;> rfl), by (with_reducible repeat (first | apply Kd.R_alloc | apply Kd.R_drewN | apply Kd.R_drew)); exact Kd.R_mono (Kd.R_far (p := ⟨gb299, 2, none⟩) (Kd.R_far (p := ⟨gb299, 1, none⟩) (Kd.R_far (p := ⟨gb299, 0, none⟩) (Kd.R_types HO_313000.out BK299.out (by decide)) (fun _ hk => hk.2) (.slice Ao18 y303.length co18)) (fun _ hk => hk.2) (.slice Ao17 y309.length co17)) (fun _ hk => hk.2) (.slice Ao43 x313002_1.length co43)) (fun _ hk => hk.1), by (with_reducible repeat (first | apply Kd.R_alloc | apply Kd.R_drewN | apply Kd.R_drew)); exact Kd.R_mono (Kd.R_far (p := ⟨gb299, 2, none⟩) (Kd.R_far (p := ⟨gb299, 1, none⟩) (Kd.R_far (p := ⟨gb299, 0, none⟩) (Kd.R_types HO_313001.out BK299.out (by decide)) (fun _ hk => hk.2) (.slice Ao18 y303.length co18)) (fun _ hk => hk.2) (.slice Ao17 y309.length co17)) (fun _ hk => hk.2) (.slice Ao43 x313002_1.length co43)) (fun _ hk => hk.1), by (with_reducible repeat (first | apply Kd.S_alloc | apply Kd.S_drewN | apply Kd.S_drew)); exact Kd.S_mono (Kd.S_far (p := ⟨gb299, 2, none⟩) (Kd.S_far (p := ⟨gb299, 1, none⟩) (Kd.S_far (p := ⟨gb299, 0, none⟩) (Kd.S_types HO_313002.out BK299.out (by decide)) (fun _ hk => hk.2) (.slice Ao18 y303.length co18)) (fun _ hk => hk.2) (.slice Ao17 y309.length co17)) (fun _ hk => hk.2) (.slice Ao43 x313002_1.length co43)) (fun _ hk => ⟨hk.1.1, hk.1.2⟩), bl_ HB.out⟩
  ·
   rw [if_neg c3] at H
   exact absurd H (by simp)
 ·
  rw [if_neg c2] at H
  exact absurd H (by simp)
end Go.Proofs.Yteodlmgmmpkpoaa.PS
end
section
namespace Go.Proofs.Yteodlmgmmpkpoaa.PS
open Go.RowKit Go.Proofs.YteodlmgmmpkpoaaW.PrintWords Go.Proofs.YteodlmgmmpkpoaaW.PrintLast Go.Proofs.YteodlmgmmpkpoaaW.PrintMore
attribute [local go_sem] max2_int min2_int max_two min_two max_three min_three max_four min_four   -- for this text's walks alone
set_option linter.unusedVariables false
set_option linter.unusedSimpArgs false
mutual
def swashplatelaw01_Far.j0 : Nat → Bool → List Int → List Int → List (List Int) → Option (Bool)
 | 0, _, _, _, _ => none
 | k + 1, x19, x183000, x183001, x183002 => if x19 = true then (some true) else (swashplatelaw01_Far.l0 k 0 x183000 x183001 x183002)
def swashplatelaw01_Far.l0 : Nat → Int → List Int → List Int → List (List Int) → Option (Bool)
 | 0, _, _, _, _ => none
 | k + 1, x3, x183000, x183001, x183002 => if x3 < (x183002.length : Int) then (if 0 ≤ x3 then (if ((rd_L3 x183002 x3).length : Int) > 15 then (some true) else (swashplatelaw01_Far.l0 k (wrap64 (x3 + 1)) x183000 x183001 x183002)) else (none)) else (some false)
end
def swashplatelaw01_Far.f (k : Nat) (l0_0 : List Int) (l0_1 : List Int) (l0_2 : List (List Int)) : Option (Bool) := if (l0_0.length : Int) > 15 then (swashplatelaw01_Far.j0 k true l0_0 l0_1 l0_2) else (if (l0_1.length : Int) > 15 then (swashplatelaw01_Far.j0 k true l0_0 l0_1 l0_2) else (swashplatelaw01_Far.j0 k (decide ((l0_2.length : Int) > 15)) l0_0 l0_1 l0_2))
set_option maxHeartbeats 8000000 in
set_option maxRecDepth 100000 in
theorem swashplatelaw01_Far.calls (k : Nat) (A0_0 : Option Addr) (c0_0 : Nat) (l0_0 : List Int) (A0_1 : Option Addr) (c0_1 : Nat) (l0_1 : List Int) (A0_2 : Option Addr) (c0_2 : Nat) (l0_2 : List (List Int)) (r : Bool) (w : World) (hr0_0 : Kd.C (Kd.int .i64) w A0_0 l0_0.length l0_0) (hc0_0 : l0_0.length ≤ c0_0) (hr0_1 : Kd.C (Kd.int .i64) w A0_1 l0_1.length l0_1) (hc0_1 : l0_1.length ≤ c0_1) (hr0_2 : Kd.C (Kd.slice 3 (Kd.int .i64)) w A0_2 l0_2.length l0_2) (hc0_2 : l0_2.length ≤ c0_2) (h : swashplatelaw01_Far.f k l0_0 l0_1 l0_2 = some r) :
  Calls Try.prog 20 #[.agg #[.slice A0_0 l0_0.length c0_0, .slice A0_1 l0_1.length c0_1, .slice A0_2 l0_2.length c0_2]] w fun e w' => e = .returned (.bool r) ∧ Below w.heap.size w w' := by
 have hu25 := Try.underlying25
 have HR0_0 := Aside0.mk hr0_0
 have HC0_0 := Aside0.mk hc0_0
 clear hr0_0 hc0_0
 have HR0_1 := Aside0.mk hr0_1
 have HC0_1 := Aside0.mk hc0_1
 clear hr0_1 hc0_1
 have HR0_2 := Aside0.mk hr0_2
 have HC0_2 := Aside0.mk hc0_2
 clear hr0_2 hc0_2
 have HB := Aside0.mk (Below.refl w.heap.size w)
 have H : (if (l0_0.length : Int) > 15 then (swashplatelaw01_Far.j0 k true l0_0 l0_1 l0_2) else (if (l0_1.length : Int) > 15 then (swashplatelaw01_Far.j0 k true l0_0 l0_1 l0_2) else (swashplatelaw01_Far.j0 k (decide ((l0_2.length : Int) > 15)) l0_0 l0_1 l0_2))) = some r := h
 clear h
 have HC2 := Aside0.mk H
 clear H
 go_enter Try.func20, Try.ntmps20
 go_upto_region 1 with (first | ((with_reducible refine gate_dst (N := 1) rfl ?_); (try (refine gate_guard (by rfl) ?_; dsimp only)); refine box_event ?hg (N := 1) ?hd (cs := #[.slice A0_0 l0_0.length c0_0, .slice A0_1 l0_1.length c0_1, .slice A0_2 l0_2.length c0_2]) (t := 25) ?hr ?_; (case hd => rfl); (case hg => rfl); (case hr => first | (go_simp; done) | (go_simp; rfl)); intro gb182 hg w3 hbox hb; have n0_ := Aside0.mk (below_step (bl_ HB.out) hb); have n1_ := Aside0.mk (hbox); have n2_ := Aside0.mk (szl_ hg HB.out); have n3_ := Aside0.mk (szl_ hg HB.out); clear HB; have HB := n0_; have BK182 := n1_; have GW182 := n2_; have GE182 := n3_; clear n0_ n1_ n2_ n3_ hb hbox hg))
 (try simp only [Act.put, List.setIfInBounds_toArray, List.set_cons_zero, List.set_cons_succ])
 go_cut [19] (fun v19 wc => ∃ (kq : Nat) (x19_1 : Bool), v19 = .bool x19_1 ∧ Aside0 (swashplatelaw01_Far.j0 kq x19_1 l0_0 l0_1 l0_2 = some r) ∧ Aside0 (kq ≤ k) ∧ Aside0 (wc.heap[gb182]? = some (.cells #[(.slice A0_0 l0_0.length c0_0), (.slice A0_1 l0_1.length c0_1), (.slice A0_2 l0_2.length c0_2)] 25 (0, 0))) ∧ Aside0 (Below w.heap.size w wc))
 case first =>
  have H := HC2.out
  clear HC2
  by_cases c4 : (l0_0.length : Int) > 15
  ·
   rw [if_pos c4] at H
   have c4b0 : decide (15 < (l0_0.length : Int)) = true := decide_eq_true c4
   have c4b1 : decide (15 < l0_0.length) = true := decide_eq_true (by omega)
   clear c4
   (first | rw [c4b0] | (simp only [i64_w, i32_w]; rw [c4b0]) | skip)
   have H' := Aside0.mk H
   clear H
   have hcz5_0 : w3.cell? ⟨gb182, 0, none⟩ = some (.slice A0_0 l0_0.length c0_0) := (blk_cell BK182.out 0).trans rfl
   have hcz5_1 : w3.cell? ⟨gb182, 1, none⟩ = some (.slice A0_1 l0_1.length c0_1) := (blk_cell BK182.out 1).trans rfl
   have hcz5_2 : w3.cell? ⟨gb182, 2, none⟩ = some (.slice A0_2 l0_2.length c0_2) := (blk_cell BK182.out 2).trans rfl
   have hfz5_0 := blk_frozen BK182.out 0
   have hfz5_1 := blk_frozen BK182.out 1
   have hfz5_2 := blk_frozen BK182.out 2
   go_wp2
   go_meet
   case rel => exact ⟨_, (true), (by first | rfl | (simp; done) | (simp [*]; done)), H', ⟨by first | omega | exact Nat.le_refl _⟩, ⟨bk_ BK182.out⟩, ⟨bl_ HB.out⟩⟩
  ·
   rw [if_neg c4] at H
   have c4b0 : decide (15 < (l0_0.length : Int)) = false := decide_eq_false c4
   have c4b1 : decide (15 < l0_0.length) = false := decide_eq_false (by omega)
   clear c4
   (first | rw [c4b0] | (simp only [i64_w, i32_w]; rw [c4b0]) | skip)
   by_cases c6 : (l0_1.length : Int) > 15
   ·
    rw [if_pos c6] at H
    have c6b0 : decide (15 < (l0_1.length : Int)) = true := decide_eq_true c6
    have c6b1 : decide (15 < l0_1.length) = true := decide_eq_true (by omega)
    clear c6
    have H' := Aside0.mk H
    clear H
    have hcz7_0 : w3.cell? ⟨gb182, 0, none⟩ = some (.slice A0_0 l0_0.length c0_0) := (blk_cell BK182.out 0).trans rfl
    have hcz7_1 : w3.cell? ⟨gb182, 1, none⟩ = some (.slice A0_1 l0_1.length c0_1) := (blk_cell BK182.out 1).trans rfl
    have hcz7_2 : w3.cell? ⟨gb182, 2, none⟩ = some (.slice A0_2 l0_2.length c0_2) := (blk_cell BK182.out 2).trans rfl
    have hfz7_0 := blk_frozen BK182.out 0
    have hfz7_1 := blk_frozen BK182.out 1
    have hfz7_2 := blk_frozen BK182.out 2
    go_wp2
    go_meet
    case rel => exact ⟨_, (true), (by first | rfl | (simp; done) | (simp [*]; done)), H', ⟨by first | omega | exact Nat.le_refl _⟩, ⟨bk_ BK182.out⟩, ⟨bl_ HB.out⟩⟩
   ·
    rw [if_neg c6] at H
    have c6b0 : decide (15 < (l0_1.length : Int)) = false := decide_eq_false c6
    have c6b1 : decide (15 < l0_1.length) = false := decide_eq_false (by omega)
    clear c6
    have H' := Aside0.mk H
    clear H
    have hcz8_0 : w3.cell? ⟨gb182, 0, none⟩ = some (.slice A0_0 l0_0.length c0_0) := (blk_cell BK182.out 0).trans rfl
    have hcz8_1 : w3.cell? ⟨gb182, 1, none⟩ = some (.slice A0_1 l0_1.length c0_1) := (blk_cell BK182.out 1).trans rfl
    have hcz8_2 : w3.cell? ⟨gb182, 2, none⟩ = some (.slice A0_2 l0_2.length c0_2) := (blk_cell BK182.out 2).trans rfl
    have hfz8_0 := blk_frozen BK182.out 0
    have hfz8_1 := blk_frozen BK182.out 1
    have hfz8_2 := blk_frozen BK182.out 2
    go_wp2
    go_meet
    case rel => exact ⟨_, (decide ((l0_2.length : Int) > 15)), (by first | rfl | (simp; done) | (simp [*]; done)), H', ⟨by first | omega | exact Nat.le_refl _⟩, ⟨bk_ BK182.out⟩, ⟨bl_ HB.out⟩⟩
 case rest =>
  clear HC2
  try clear c2
  try clear p2
  try clear c4
  try clear c4b0
  try clear c4b1
  try clear c6
  try clear c6b0
  try clear c6b1
  try clear hcz5_0
  try clear hcz5_1
  try clear hcz5_2
  try clear hcz7_0
  try clear hcz7_1
  try clear hcz7_2
  try clear hcz8_0
  try clear hcz8_1
  try clear hcz8_2
  try clear hfz5_0
  try clear hfz5_1
  try clear hfz5_2
  try clear hfz7_0
  try clear hfz7_1
  try clear hfz7_2
  try clear hfz8_0
  try clear hfz8_1
  try clear hfz8_2
  obtain ⟨kq, x19_1, rfl, HA, HJ1, BK182, HB⟩ := hcut
  cases kq with
  | zero => exact absurd HA.out (by simp [swashplatelaw01_Far.j0])
  | succ kj1 =>
   have H := HA.out
   clear HA
   simp only [swashplatelaw01_Far.j0] at H
   by_cases c9 : x19_1 = true
   ·
    subst c9
    have H1 : (some true) = some r := by rw [if_pos rfl] at H; exact H
    clear H
    have H := H1
    clear H1
    obtain rfl := Option.some.inj H
    go_wp2
    go_ret
    exact ⟨by first | rfl | (simp [errW_none, errW_some] <;> rfl) | (simp [*, errW_none, errW_some] <;> rfl), bl_ HB.out⟩
   ·
    replace c9 := Bool.eq_false_iff.mpr c9
    subst c9
    have H1 : (swashplatelaw01_Far.l0 kj1 0 l0_0 l0_1 l0_2) = some r := by rw [if_neg (show ¬ (false = true) by decide)] at H; exact H
    clear H
    have H := H1
    clear H1
    have H' := Aside0.mk H
    clear H
    go_wp2
    go_loopg [3] kj1 (fun kq v3 w' => ∃ (x3_2 : Int), v3 = .int .i64 x3_2 ∧ Aside0 (swashplatelaw01_Far.l0 kq x3_2 l0_0 l0_1 l0_2 = some r) ∧ Aside0 (kq ≤ kj1) ∧ Aside0 (w'.heap[gb182]? = some (.cells #[(.slice A0_0 l0_0.length c0_0), (.slice A0_1 l0_1.length c0_1), (.slice A0_2 l0_2.length c0_2)] 25 (0, 0))) ∧ Aside0 (Below w.heap.size w w'))
    case atStart => exact ⟨(0), (by first | rfl | (simp; done) | (simp [*]; done)), H', ⟨Nat.le_refl _⟩, ⟨bk_ BK182.out⟩, ⟨bl_ HB.out⟩⟩
    case round =>
     clear H'
     try clear c2
     try clear p2
     try clear c4
     try clear c4b0
     try clear c4b1
     try clear c6
     try clear c6b0
     try clear c6b1
     try clear c9
     try clear hcz5_0
     try clear hcz5_1
     try clear hcz5_2
     try clear hcz7_0
     try clear hcz7_1
     try clear hcz7_2
     try clear hcz8_0
     try clear hcz8_1
     try clear hcz8_2
     try clear hfz5_0
     try clear hfz5_1
     try clear hfz5_2
     try clear hfz7_0
     try clear hfz7_1
     try clear hfz7_2
     try clear hfz8_0
     try clear hfz8_1
     try clear hfz8_2
     try clear p2
     obtain ⟨x3_2, rfl, HA, HK2, BK182, HB⟩ := hrel
     cases gk with
     | zero => exact absurd HA.out (by simp [swashplatelaw01_Far.l0])
     | succ k2 =>
      have H := HA.out
      clear HA
      simp only [swashplatelaw01_Far.l0] at H
      by_cases c10 : x3_2 < (l0_2.length : Int)
      ·
       rw [if_pos c10] at H
       have c10b0 : decide (x3_2 < (l0_2.length : Int)) = true := decide_eq_true c10
       clear c10
       by_cases c11 : 0 ≤ x3_2
       ·
        rw [if_pos c11] at H
        have c11b0 : decide (0 ≤ x3_2) = true := decide_eq_true c11
        clear c11
        by_cases c12 : ((rd_L3 l0_2 x3_2).length : Int) > 15
        ·
         rw [if_pos c12] at H
         have c12b0 : decide (15 < ((rd_L3 l0_2 x3_2).length : Int)) = true := decide_eq_true c12
         have c12b1 : decide (15 < (rd_L3 l0_2 x3_2).length) = true := decide_eq_true (by omega)
         clear c12
         obtain rfl := Option.some.inj H
         have hcz13_0 : wr.cell? ⟨gb182, 0, none⟩ = some (.slice A0_0 l0_0.length c0_0) := (blk_cell BK182.out 0).trans rfl
         have hcz13_1 : wr.cell? ⟨gb182, 1, none⟩ = some (.slice A0_1 l0_1.length c0_1) := (blk_cell BK182.out 1).trans rfl
         have hcz13_2 : wr.cell? ⟨gb182, 2, none⟩ = some (.slice A0_2 l0_2.length c0_2) := (blk_cell BK182.out 2).trans rfl
         have hfz13_0 := blk_frozen BK182.out 0
         have hfz13_1 := blk_frozen BK182.out 1
         have hfz13_2 := blk_frozen BK182.out 2
         have p183 : 0 ≤ (x3_2 : Int) := of_decide_eq_true (by first | (with_reducible assumption) | assumption)
         have q183 : x3_2 < (l0_2.length : Int) := of_decide_eq_true (by first | (with_reducible assumption) | assumption)
         obtain ⟨ad183, A183_0, c183_0, e183, hx183_0, hl183_0, hi183_0⟩ := at_L3 HR0_2.out x3_2 p183 q183
         cases e183
         replace hx183_0 := (HB.out.cell (World.block_lt_of_cell? w _ hx183_0)).trans hx183_0
         have HR183_0 := Aside0.mk hi183_0
         have HC183_0 := Aside0.mk hl183_0
         clear hi183_0 hl183_0
         replace p183 := eq_true p183
         replace q183 := eq_true q183
         go_wp2
         go_ret
         exact ⟨by first | rfl | (simp [errW_none, errW_some] <;> rfl) | (simp [*, errW_none, errW_some] <;> rfl), bl_ HB.out⟩
        ·
         rw [if_neg c12] at H
         have c12b0 : decide (15 < ((rd_L3 l0_2 x3_2).length : Int)) = false := decide_eq_false c12
         have c12b1 : decide (15 < (rd_L3 l0_2 x3_2).length) = false := decide_eq_false (by omega)
         clear c12
         have H' := Aside0.mk H
         clear H
         have hcz14_0 : wr.cell? ⟨gb182, 0, none⟩ = some (.slice A0_0 l0_0.length c0_0) := (blk_cell BK182.out 0).trans rfl
         have hcz14_1 : wr.cell? ⟨gb182, 1, none⟩ = some (.slice A0_1 l0_1.length c0_1) := (blk_cell BK182.out 1).trans rfl
         have hcz14_2 : wr.cell? ⟨gb182, 2, none⟩ = some (.slice A0_2 l0_2.length c0_2) := (blk_cell BK182.out 2).trans rfl
         have hfz14_0 := blk_frozen BK182.out 0
         have hfz14_1 := blk_frozen BK182.out 1
         have hfz14_2 := blk_frozen BK182.out 2
         have p183 : 0 ≤ (x3_2 : Int) := of_decide_eq_true (by first | (with_reducible assumption) | assumption)
         have q183 : x3_2 < (l0_2.length : Int) := of_decide_eq_true (by first | (with_reducible assumption) | assumption)
         obtain ⟨ad183, A183_0, c183_0, e183, hx183_0, hl183_0, hi183_0⟩ := at_L3 HR0_2.out x3_2 p183 q183
         cases e183
         replace hx183_0 := (HB.out.cell (World.block_lt_of_cell? w _ hx183_0)).trans hx183_0
         have HR183_0 := Aside0.mk hi183_0
         have HC183_0 := Aside0.mk hl183_0
         clear hi183_0 hl183_0
         replace p183 := eq_true p183
         replace q183 := eq_true q183
         go_wp2
         go_roundg k2
         case measure => have := HJ1.out; have := HK2.out; omega
         case rel => exact ⟨(wrap64 (x3_2 + 1)), (by first | rfl | (simp; done) | (simp [*]; done)), H', ⟨by have := HJ1.out; have := HK2.out; omega⟩, ⟨bk_ BK182.out⟩, ⟨bl_ HB.out⟩⟩
       ·
        rw [if_neg c11] at H
        exact absurd H (by simp)
      ·
       rw [if_neg c10] at H
       have c10b0 : decide (x3_2 < (l0_2.length : Int)) = false := decide_eq_false c10
       clear c10
       obtain rfl := Option.some.inj H
       have hcz15_0 : wr.cell? ⟨gb182, 0, none⟩ = some (.slice A0_0 l0_0.length c0_0) := (blk_cell BK182.out 0).trans rfl
       have hcz15_1 : wr.cell? ⟨gb182, 1, none⟩ = some (.slice A0_1 l0_1.length c0_1) := (blk_cell BK182.out 1).trans rfl
       have hcz15_2 : wr.cell? ⟨gb182, 2, none⟩ = some (.slice A0_2 l0_2.length c0_2) := (blk_cell BK182.out 2).trans rfl
       have hfz15_0 := blk_frozen BK182.out 0
       have hfz15_1 := blk_frozen BK182.out 1
       have hfz15_2 := blk_frozen BK182.out 2
       go_wp2
       go_ret
       exact ⟨by first | rfl | (simp [errW_none, errW_some] <;> rfl) | (simp [*, errW_none, errW_some] <;> rfl), bl_ HB.out⟩
end Go.Proofs.Yteodlmgmmpkpoaa.PS
end
section
namespace Go.Proofs.Yteodlmgmmpkpoaa.PS
open Go.RowKit Go.Proofs.YteodlmgmmpkpoaaW.PrintWords Go.Proofs.YteodlmgmmpkpoaaW.PrintLast Go.Proofs.YteodlmgmmpkpoaaW.PrintMore
set_option linter.unusedVariables false
theorem from_total (a b c : Int) : swashplateref01_From.f a b c = some (decide (b ≤ a) && decide (a ≤ c)) := by
  unfold swashplateref01_From.f
  by_cases h : a ≥ b
  · rw [if_pos h]; simp [show b ≤ a from h]
  · rw [if_neg h]; simp [show ¬ b ≤ a from h]
theorem rvalid_total (a b : Int) : swashplateref01_Valid.f a b = some (okS a b) := by
  unfold swashplateref01_Valid.f okS
  rw [from_total, Option.bind_some]
  by_cases h : (decide (-1000000 ≤ a) && decide (a ≤ 1000000)) = true
  · rw [if_pos h, from_total, Option.bind_some]
    simp only [Bool.and_eq_true, decide_eq_true_eq] at h
    congr 1
    rw [Bool.eq_iff_iff]
    simp
    omega
  · rw [if_neg h]
    simp only [Bool.and_eq_true, decide_eq_true_eq] at h
    congr 1
    symm
    rw [Bool.eq_false_iff]
    intro h2
    simp at h2
    omega
theorem step64 (i : Nat) (h : i < 9223372036854775807) : wrap64 ((i : Int) + 1) = ((i + 1 : Nat) : Int) := by rw [wr64 (by omega) (by omega)]; rfl
theorem knots_loop (l : List Int) (hl : l.length ≤ 9223372036854775807) : ∀ (d k i : Nat), l.length - i = d → i ≤ l.length → d < k → (i = 0 ∨ inM (gI l (i - 1)) = true) →
    swashplateref01_knots.l0 k l i = some (goodFrom l i)
  | 0, k, i, hd, hi, hk, hp => by
    obtain ⟨k, rfl⟩ : ∃ m, k = m + 1 := ⟨k - 1, by omega⟩
    simp only [swashplateref01_knots.l0]
    rw [if_neg (by omega)]
    have hil : i = l.length := by omega
    subst hil
    unfold goodFrom
    rw [List.drop_length, List.all_nil, Bool.true_and]
    congr 1
    cases h : l.length with
    | zero => rw [List.length_eq_zero_iff.1 h]; rfl
    | succ n =>
      rw [show n + 1 - 1 = n from rfl, drop_step l n (by omega), List.drop_of_length_le (by omega)]
      exact (gaps_one _).symm
  | d + 1, k, i, hd, hi, hk, hp => by
    obtain ⟨k, rfl⟩ : ∃ m, k = m + 1 := ⟨k - 1, by omega⟩
    have hlt : i < l.length := by omega
    simp only [swashplateref01_knots.l0]
    rw [if_pos (by omega), if_pos (by omega), rd_nat, from_total, Option.bind_some]
    have e0 : (decide (-1000000 ≤ gI l i) && decide (gI l i ≤ 1000000)) = inM (gI l i) := rfl
    rw [e0]
    cases hin : inM (gI l i) with
    | false =>
      rw [if_neg (by simp)]
      unfold goodFrom
      rw [drop_step l i hlt, List.all_cons, hin]
      rfl
    | true =>
      rw [if_pos rfl]
      have ih := knots_loop l hl d k (i + 1) (by omega) (by omega) (by omega) (.inr (by rw [Nat.add_sub_cancel]; exact hin))
      have e1 : wrap64 ((i : Int) + 1) = ((i + 1 : Nat) : Int) := step64 i (by omega)
      by_cases h0 : i = 0
      · subst h0
        rw [if_neg (by omega), e1, ih]
        unfold goodFrom
        rw [drop_step l 0 hlt, List.all_cons, hin]
        simp only [Nat.zero_add, Bool.true_and]
      · rw [if_pos (by omega)]
        have e2 : wrap64 ((i : Int) - 1) = ((i - 1 : Nat) : Int) := by rw [wr64 (by omega) (by omega)]; omega
        rw [e2, if_pos (by omega), if_pos (by omega), rd_nat]
        have hp' := (inM_iff _).1 (hp.resolve_left h0)
        have hi' := (inM_iff _).1 hin
        rw [wr64 (by omega) (by omega), from_total, Option.bind_some]
        have e3 : goodFrom l i = ((decide (1 ≤ gI l i - gI l (i - 1)) && decide (gI l i - gI l (i - 1) ≤ 10000)) && goodFrom l (i + 1)) := by
          unfold goodFrom
          rw [drop_step l i hlt, List.all_cons, hin, Bool.true_and, Nat.add_sub_cancel]
          rw [drop_step l (i - 1) (by omega), show i - 1 + 1 = i from by omega, drop_step l i hlt, gaps_cons]
          cases (decide (1 ≤ gI l i - gI l (i - 1)) && decide (gI l i - gI l (i - 1) ≤ 10000)) <;> simp
        cases hg : (decide (1 ≤ gI l i - gI l (i - 1)) && decide (gI l i - gI l (i - 1) ≤ 10000)) with
        | false => rw [if_neg (by simp), e3, hg]; rfl
        | true => rw [if_pos rfl, e1, ih, e3, hg, Bool.true_and]
theorem knots_total (l : List Int) (hl : l.length ≤ 9223372036854775807) (k : Nat) (hk : l.length < k) : swashplateref01_knots.f k l = some (axisB l) := by
  unfold swashplateref01_knots.f
  rw [from_total, Option.bind_some]
  have e : (decide ((2 : Int) ≤ (l.length : Int)) && decide ((l.length : Int) ≤ 12)) = (decide (2 ≤ l.length) && decide (l.length ≤ 12)) := by
    rw [Bool.eq_iff_iff]; simp; omega
  rw [e]
  unfold axisB
  cases h : (decide (2 ≤ l.length) && decide (l.length ≤ 12)) with
  | false => rw [if_neg (by simp)]; rfl
  | true =>
    rw [if_pos rfl]
    have := knots_loop l hl (l.length - 0) k 0 rfl (Nat.zero_le _) (by omega) (.inl rfl)
    rw [show ((0 : Nat) : Int) = 0 from rfl] at this
    rw [this]
    unfold goodFrom
    simp
theorem drop_stepG {α : Type} (d : α) (l : List α) (i : Nat) (hi : i < l.length) : l.drop i = l.getD i d :: l.drop (i + 1) := by
  rw [List.drop_eq_getElem_cons hi, List.getD_eq_getElem?_getD, List.getElem?_eq_getElem hi]
  rfl
theorem rdL3_nat (V : List (List Int)) (i : Nat) : rd_L3 V (i : Int) = V.getD i [] := by unfold rd_L3; rw [Int.toNat_natCast]
theorem rows_loop (X Y : List Int) (V : List (List Int)) (hv : V.length ≤ 15) (hr : ∀ r ∈ V, r.length ≤ 15) : ∀ (k : Nat),
    (∀ i, i ≤ V.length → 40 * (V.length - i) < k → swashplateref01_CheckTable.l0 k i X Y V = some (if (V.drop i).all (rowB Y.length) then 0 else 11)) ∧
    (∀ i j, i < V.length → (V.getD i []).length = Y.length → j ≤ (V.getD i []).length → 40 * (V.length - (i + 1)) + ((V.getD i []).length - j) + 1 < k →
      swashplateref01_CheckTable.l1 k i j X Y V = some (if ((V.getD i []).drop j).all inM && (V.drop (i + 1)).all (rowB Y.length) then 0 else 11))
  | 0 => ⟨fun i _ h => absurd h (Nat.not_lt_zero _), fun i j _ _ _ h => absurd h (Nat.not_lt_zero _)⟩
  | k + 1 => by
    obtain ⟨ih0, ih1⟩ := rows_loop X Y V hv hr k
    refine ⟨fun i hi hk => ?_, fun i j hi hy hj hk => ?_⟩
    · simp only [swashplateref01_CheckTable.l0]
      by_cases hlt : i < V.length
      · rw [if_pos (by omega), if_pos (by omega), rdL3_nat]
        have hrow := hr (V.getD i []) (by rw [List.getD_eq_getElem?_getD, List.getElem?_eq_getElem hlt]; exact List.getElem_mem hlt)
        rw [drop_stepG [] V i hlt, List.all_cons]
        by_cases he : (V.getD i []).length = Y.length
        · rw [if_pos (by rw [he])]
          have := ih1 i 0 hlt he (Nat.zero_le _) (by omega)
          rw [show ((0 : Nat) : Int) = 0 from rfl] at this
          rw [this, List.drop_zero]
          have e : rowB Y.length (V.getD i []) = (V.getD i []).all inM := by unfold rowB; rw [he]; simp
          rw [e]
        · rw [if_neg (by omega)]
          have e : rowB Y.length (V.getD i []) = false := by unfold rowB; rw [beq_eq_false_iff_ne.2 he]; rfl
          rw [e]
          rfl
      · rw [if_neg (by omega), List.drop_of_length_le (by omega)]
        rfl
    · simp only [swashplateref01_CheckTable.l1]
      rw [if_pos (by omega), if_pos (by omega), rdL3_nat]
      by_cases hlt : j < (V.getD i []).length
      · rw [if_pos (by omega), if_pos (by omega), rd_nat, from_total, Option.bind_some]
        have e0 : (decide (-1000000 ≤ gI (V.getD i []) j) && decide (gI (V.getD i []) j ≤ 1000000)) = inM (gI (V.getD i []) j) := rfl
        rw [e0, drop_step (V.getD i []) j hlt, List.all_cons]
        have hrow := hr (V.getD i []) (by rw [List.getD_eq_getElem?_getD, List.getElem?_eq_getElem hi]; exact List.getElem_mem hi)
        cases inM (gI (V.getD i []) j) with
        | false => rw [if_neg (by simp)]; rfl
        | true =>
          rw [if_pos rfl, step64 j (by omega)]
          rw [ih1 i (j + 1) hi hy (by omega) (by omega), Bool.true_and]
      · rw [if_neg (by omega), List.drop_of_length_le (by omega), step64 i (by omega)]
        rw [ih0 (i + 1) (by omega) (by omega)]
        rfl
theorem rtable_total (X Y : List Int) (V : List (List Int)) (hx : X.length ≤ 15) (hy : Y.length ≤ 15) (hv : V.length ≤ 15) (hr : ∀ r ∈ V, r.length ≤ 15) (k : Nat) (hk : 700 < k) :
    swashplateref01_CheckTable.f k X Y V = some (if tableB X Y V then 0 else 11) := by
  have hj : ∀ b, swashplateref01_CheckTable.j0 k b X Y V = some (if b = true then 11 else (if V.all (rowB Y.length) then 0 else 11)) := by
    intro b
    obtain ⟨k, rfl⟩ : ∃ m, k = m + 1 := ⟨k - 1, by omega⟩
    simp only [swashplateref01_CheckTable.j0]
    cases b with
    | true => rw [if_pos rfl, if_pos rfl]
    | false =>
      rw [if_neg (by simp), if_neg (by simp)]
      have := (rows_loop X Y V hv hr k).1 0 (Nat.zero_le _) (by omega)
      rw [List.drop_zero] at this
      exact this
  unfold swashplateref01_CheckTable.f tableB
  rw [knots_total X (by omega) k (by omega), Option.bind_some]
  cases axisB X with
  | false => rw [if_neg (by simp), hj]; rfl
  | true =>
    rw [if_pos rfl, knots_total Y (by omega) k (by omega), Option.bind_some]
    cases axisB Y with
    | false => rw [if_neg (by simp), hj]; rfl
    | true =>
      rw [if_pos rfl, hj]
      by_cases he : V.length = X.length
      · rw [if_neg (by simp [he])]
        simp [he]
      · rw [if_pos (by simp; omega)]
        simp [he]
theorem copy_loop (X Y : List Int) (V : List (List Int)) (A B : List Int) (hv : V.length ≤ 15) (hr : ∀ r ∈ V, r.length ≤ 15) : ∀ (k i : Nat), i ≤ V.length → V.length - i < k →
    swashplateref01_Copy.l0 k i X Y V A B (V.take i) = some (A, B, V)
  | 0, i, _, h => absurd h (Nat.not_lt_zero _)
  | k + 1, i, hi, hk => by
    simp only [swashplateref01_Copy.l0]
    by_cases hlt : i < V.length
    · have hrow := hr (V.getD i []) (by rw [List.getD_eq_getElem?_getD, List.getElem?_eq_getElem hlt]; exact List.getElem_mem hlt)
      rw [if_pos (by omega), Option.bind_some, if_pos (by omega), rdL3_nat, if_pos (by simp only [List.length_nil]; omega), if_pos (by rw [List.length_take]; omega), step64 i (by omega), List.nil_append]
      have e : V.take i ++ [V.getD i []] = V.take (i + 1) := by
        rw [List.take_succ_eq_append_getElem hlt, List.getD_eq_getElem?_getD, List.getElem?_eq_getElem hlt]
        rfl
      rw [e]
      exact copy_loop X Y V A B hv hr k (i + 1) (by omega) (by omega)
    · rw [if_neg (by omega), List.take_of_length_le (by omega)]
theorem copy_total (X Y : List Int) (V : List (List Int)) (hx : X.length ≤ 15) (hy : Y.length ≤ 15) (hv : V.length ≤ 15) (hr : ∀ r ∈ V, r.length ≤ 15) (k : Nat) (hk : 15 < k) :
    swashplateref01_Copy.f k X Y V = some (X, Y, V) := by
  unfold swashplateref01_Copy.f
  rw [Option.bind_some, if_pos (by simp only [List.length_nil]; omega), Option.bind_some, if_pos (by simp only [List.length_nil]; omega), List.nil_append, List.nil_append]
  have := copy_loop X Y V X Y hv hr k 0 (Nat.zero_le _) (by omega)
  rw [List.take_zero] at this
  exact this
def farB (X Y : List Int) (V : List (List Int)) : Bool := (decide (15 < X.length) || decide (15 < Y.length) || decide (15 < V.length)) || V.any (fun r => decide (15 < r.length))
theorem far_loop (X Y : List Int) (V : List (List Int)) (hv : V.length ≤ 15) : ∀ (k i : Nat), i ≤ V.length → V.length - i < k →
    swashplatelaw01_Far.l0 k i X Y V = some ((V.drop i).any (fun r => decide (15 < r.length)))
  | 0, i, _, h => absurd h (Nat.not_lt_zero _)
  | k + 1, i, hi, hk => by
    simp only [swashplatelaw01_Far.l0]
    by_cases hlt : i < V.length
    · rw [if_pos (by omega), if_pos (by omega), rdL3_nat, drop_stepG [] V i hlt, List.any_cons]
      by_cases he : 15 < (V.getD i []).length
      · rw [if_pos (by omega), decide_eq_true he]
        rfl
      · rw [if_neg (by omega), step64 i (by omega), far_loop X Y V hv k (i + 1) (by omega) (by omega), decide_eq_false he, Bool.false_or]
    · rw [if_neg (by omega), List.drop_of_length_le (by omega)]
      rfl
theorem far_total (X Y : List Int) (V : List (List Int)) (k : Nat) (hk : 20 < k) : swashplatelaw01_Far.f k X Y V = some (farB X Y V) := by
  have hj : ∀ b, swashplatelaw01_Far.j0 k b X Y V = (if b = true then some true else swashplatelaw01_Far.l0 (k - 1) 0 X Y V) := by
    intro b
    obtain ⟨k, rfl⟩ : ∃ m, k = m + 1 := ⟨k - 1, by omega⟩
    simp only [swashplatelaw01_Far.j0]
    rfl
  unfold swashplatelaw01_Far.f farB
  by_cases h1 : 15 < X.length
  · rw [if_pos (by omega), hj, if_pos rfl]; simp [h1]
  · rw [if_neg (by omega)]
    by_cases h2 : 15 < Y.length
    · rw [if_pos (by omega), hj, if_pos rfl]; simp [h1, h2]
    · rw [if_neg (by omega), hj]
      by_cases h3 : 15 < V.length
      · rw [if_pos (by simp; omega)]; simp [h1, h2, h3]
      · rw [if_neg (by simp; omega)]
        have := far_loop X Y V (by omega) (k - 1) 0 (Nat.zero_le _) (by omega)
        rw [List.drop_zero] at this
        rw [show ((0 : Nat) : Int) = 0 from rfl] at this
        rw [this]
        simp [h1, h2, h3]
theorem far_false {X Y : List Int} {V : List (List Int)} (h : farB X Y V = false) : X.length ≤ 15 ∧ Y.length ≤ 15 ∧ V.length ≤ 15 ∧ ∀ r ∈ V, r.length ≤ 15 := by
  unfold farB at h
  simp only [Bool.or_eq_false_iff, decide_eq_false_iff_not, List.any_eq_false, decide_eq_true_eq] at h
  obtain ⟨⟨⟨h1, h2⟩, h3⟩, h4⟩ := h
  exact ⟨by omega, by omega, by omega, fun r hr => by have := h4 r hr; omega⟩
end Go.Proofs.Yteodlmgmmpkpoaa.PS
end
section
namespace Go.Proofs.Yteodlmgmmpkpoaa.PS
open Go.RowKit Go.Proofs.YteodlmgmmpkpoaaW.PrintWords Go.Proofs.YteodlmgmmpkpoaaW.PrintLast Go.Proofs.YteodlmgmmpkpoaaW.PrintMore
attribute [local go_sem] max2_int min2_int max_two min_two max_three min_three max_four min_four   -- for this text's walks alone
set_option linter.unusedVariables false
set_option linter.unusedSimpArgs false
def swashplateref01_part.l0 : Nat → List Int → Int → Int → Option (Int)
 | 0, _, _, _ => none
 | k + 1, x0, x1, x5 => if (wrap64 (x5 + 2)) < (x0.length : Int) then (if 0 ≤ (wrap64 (x5 + 1)) then (if (wrap64 (x5 + 1)) < (x0.length : Int) then (if (rd x0 (wrap64 (x5 + 1))) ≤ x1 then (swashplateref01_part.l0 k x0 x1 (wrap64 (x5 + 1))) else (some x5)) else (none)) else (none)) else (some x5)
def swashplateref01_part.f (k : Nat) (l0 : List Int) (a1 : Int) : Option (Int) := swashplateref01_part.l0 k l0 a1 0
set_option maxHeartbeats 8000000 in
set_option maxRecDepth 100000 in
theorem swashplateref01_part.calls (k : Nat) (A0 : Option Addr) (c0 : Nat) (l0 : List Int) (a1 : Int) (r : Int) (w : World) (hr0 : Kd.C (Kd.int .i64) w A0 l0.length l0) (hc0 : l0.length ≤ c0) (h : swashplateref01_part.f k l0 a1 = some r) :
  Calls Try.prog 156 #[.slice A0 l0.length c0, .int .i64 a1] w fun e w' => e = .returned (.int .i64 r) ∧ Drawn0 w w' := by
 have HR0 := Aside0.mk hr0
 have HC0 := Aside0.mk hc0
 clear hr0 hc0
 have H : (swashplateref01_part.l0 k l0 a1 0) = some r := h
 clear h
 have H' := Aside0.mk H
 clear H
 go_enter Try.func156, Try.ntmps156
 go_wp2
 go_loopg [5] k (fun kq v5 w' => ∃ (x5_1 : Int), v5 = .int .i64 x5_1 ∧ Aside0 (swashplateref01_part.l0 kq l0 a1 x5_1 = some r) ∧ Aside0 (kq ≤ k) ∧ Drawn0 w w')
 case atStart => exact ⟨(0), (by first | rfl | (simp; done) | (simp [*]; done)), H', ⟨Nat.le_refl _⟩, by repeat (first | exact Drawn0.refl _ | apply Drawn0.step)⟩
 case round =>
  clear H'
  try clear c1
  try clear p2
  obtain ⟨x5_1, rfl, HA, HK1, ⟨m1, rfl⟩⟩ := hrel
  cases gk with
  | zero => exact absurd HA.out (by simp [swashplateref01_part.l0])
  | succ k1 =>
   have H := HA.out
   clear HA
   simp only [swashplateref01_part.l0] at H
   by_cases c3 : (wrap64 (x5_1 + 2)) < (l0.length : Int)
   ·
    rw [if_pos c3] at H
    have c3b0 : decide ((wrap64 (x5_1 + 2)) < (l0.length : Int)) = true := decide_eq_true c3
    clear c3
    obtain ⟨ji4, hji4⟩ : ∃ j_ : Int, (wrap64 (x5_1 + 1)) = j_ := ⟨_, rfl⟩
    replace H : (if 0 ≤ (ji4) then (if (ji4) < (l0.length : Int) then (if (rd l0 (ji4)) ≤ a1 then (swashplateref01_part.l0 k1 l0 a1 ji4) else (some x5_1)) else (none)) else (none)) = some r := by first | (rw [hji4] at H; exact H) | (simp only [hji4] at H ⊢; exact H)
    have hji4w : (IntKind.i64.wrap (x5_1 + 1)) = ji4 := (i64_w _).trans hji4
    by_cases c5 : 0 ≤ (ji4)
    ·
     rw [if_pos c5] at H
     have c5b0 : decide (0 ≤ (ji4)) = true := decide_eq_true c5
     clear c5
     by_cases c6 : (ji4) < (l0.length : Int)
     ·
      rw [if_pos c6] at H
      have c6b0 : decide ((ji4) < (l0.length : Int)) = true := decide_eq_true c6
      clear c6
      by_cases c7 : (rd l0 (ji4)) ≤ a1
      ·
       rw [if_pos c7] at H
       have c7b0 : decide ((rd l0 (ji4)) ≤ a1) = true := decide_eq_true c7
       clear c7
       have H' := Aside0.mk H
       clear H
       have p167 : 0 ≤ ((ji4) : Int) := of_decide_eq_true (by first | (with_reducible assumption) | assumption)
       have q167 : (ji4) < (l0.length : Int) := of_decide_eq_true (by first | (with_reducible assumption) | assumption)
       obtain ⟨ad167, e167, hx167_0⟩ := Kd.at_int HR0.out (ji4) p167 q167
       cases e167
       replace p167 := eq_true p167
       replace q167 := eq_true q167
       go_wp2
       go_roundg k1
       case measure => have := HK1.out; omega
       case rel => exact ⟨(ji4), (by first | rfl | (simp; done) | (simp only [← hji4] <;> (first | rfl | simp)) | (simp [*]; done)), H', ⟨by have := HK1.out; omega⟩, by repeat (first | exact Drawn0.refl _ | apply Drawn0.step)⟩
      ·
       rw [if_neg c7] at H
       have c7b0 : decide ((rd l0 (ji4)) ≤ a1) = false := decide_eq_false c7
       clear c7
       obtain rfl := Option.some.inj H
       have p167 : 0 ≤ ((ji4) : Int) := of_decide_eq_true (by first | (with_reducible assumption) | assumption)
       have q167 : (ji4) < (l0.length : Int) := of_decide_eq_true (by first | (with_reducible assumption) | assumption)
       obtain ⟨ad167, e167, hx167_0⟩ := Kd.at_int HR0.out (ji4) p167 q167
       cases e167
       replace p167 := eq_true p167
       replace q167 := eq_true q167
       go_wp2
       go_ret
       exact ⟨by first | rfl | (simp; done) | (simp only [← hji4] <;> (first | rfl | simp)) | (simp [*]; done), by repeat (first | exact Drawn0.refl _ | apply Drawn0.step)⟩
     ·
      rw [if_neg c6] at H
      exact absurd H (by simp)
    ·
     rw [if_neg c5] at H
     exact absurd H (by simp)
   ·
    rw [if_neg c3] at H
    have c3b0 : decide ((wrap64 (x5_1 + 2)) < (l0.length : Int)) = false := decide_eq_false c3
    clear c3
    obtain rfl := Option.some.inj H
    go_wp2
    go_ret
    exact ⟨by first | rfl | (simp; done) | (simp [*]; done), by repeat (first | exact Drawn0.refl _ | apply Drawn0.step)⟩
end Go.Proofs.Yteodlmgmmpkpoaa.PS
end
section
namespace Go.Proofs.Yteodlmgmmpkpoaa.PS
open Go.RowKit Go.Proofs.YteodlmgmmpkpoaaW.PrintWords Go.Proofs.YteodlmgmmpkpoaaW.PrintLast Go.Proofs.YteodlmgmmpkpoaaW.PrintMore
set_option linter.unusedVariables false
theorem le_closed (x : Int) : ∀ a b : Int, a < b → decide (b ≤ x) = true → decide (a ≤ x) = true := by intro a b h; simp; omega
theorem part_spot {l : List Int} (h : Ax l) {x : Int} (hx : onB l x x = true) : Spot l x (partOf l x) := by
  have h2 := h.two
  have hc := count_spot (innerL l) (inner_asc h) (fun y => decide (y ≤ x)) (le_closed x)
  have hle : partOf l x ≤ l.length - 2 := by rw [← inner_len]; exact List.countP_le_length
  have hon := (onB_iff _ _ _).1 hx
  refine ⟨by omega, ?_, ?_⟩
  · cases hi : partOf l x with
    | zero => exact hon.1
    | succ i =>
      have := (hc i (by rw [inner_len]; omega)).2 (by show i < partOf l x; omega)
      rw [inner_get _ _ (by omega)] at this
      simp at this
      omega
  · by_cases he : partOf l x = l.length - 2
    · rw [he, show l.length - 2 + 1 = l.length - 1 from by omega]; exact hon.2
    · have := hc (partOf l x) (by rw [inner_len]; omega)
      rw [inner_get _ _ (by omega)] at this
      have h3 : ¬ partOf l x < partOf l x := by omega
      have h4 : ¬ (decide (gI l (partOf l x + 1) ≤ x) = true) := fun hq => h3 (this.1 hq)
      simp at h4
      omega
theorem part_loop {l : List Int} (h : Ax l) (x : Int) : ∀ (d k i : Nat), l.length - 2 - i = d → i ≤ partOf l x → d < k → swashplateref01_part.l0 k l x i = some (partOf l x : Int)
  | d, k, i, hd, hi, hk => by
    have h2 := h.two
    have hm := h.most
    obtain ⟨k, rfl⟩ : ∃ m, k = m + 1 := ⟨k - 1, by omega⟩
    have hle : partOf l x ≤ l.length - 2 := by rw [← inner_len]; exact List.countP_le_length
    simp only [swashplateref01_part.l0]
    rw [show wrap64 ((i : Int) + 2) = (i : Int) + 2 from wr64 (by omega) (by omega), show wrap64 ((i : Int) + 1) = (i : Int) + 1 from wr64 (by omega) (by omega)]
    by_cases hlt : i < l.length - 2
    · rw [if_pos (by omega), if_pos (by omega), if_pos (by omega), show (i : Int) + 1 = ((i + 1 : Nat) : Int) from rfl, rd_nat]
      have hc := count_spot (innerL l) (inner_asc h) (fun y => decide (y ≤ x)) (le_closed x) i (by rw [inner_len]; omega)
      rw [inner_get _ _ (by omega)] at hc
      by_cases hv : gI l (i + 1) ≤ x
      · rw [if_pos hv]
        have h3 : i < partOf l x := hc.1 (by simpa using hv)
        exact part_loop h x (d - 1) k (i + 1) (by omega) (by omega) (by omega)
      · rw [if_neg hv]
        have h3 : ¬ i < partOf l x := fun hq => hv (by simpa using hc.2 hq)
        rw [show partOf l x = i from by omega]
    · rw [if_neg (by omega), show partOf l x = i from by omega]
  termination_by d => d
  decreasing_by omega
theorem part_total {l : List Int} (h : Ax l) (x : Int) (k : Nat) (hk : 12 < k) : swashplateref01_part.f k l x = some (partOf l x : Int) := by
  have hm := h.most
  unfold swashplateref01_part.f
  exact part_loop h x (l.length - 2) k 0 (by omega) (Nat.zero_le _) (by omega)
end Go.Proofs.Yteodlmgmmpkpoaa.PS
end
section
namespace Go.Proofs.Yteodlmgmmpkpoaa.PS
open Go.RowKit Go.Proofs.YteodlmgmmpkpoaaW.PrintWords Go.Proofs.YteodlmgmmpkpoaaW.PrintLast Go.Proofs.YteodlmgmmpkpoaaW.PrintMore
set_option linter.unusedVariables false
set_option linter.unusedSimpArgs false
set_option maxHeartbeats 4000000 in
set_option maxRecDepth 100000 in
theorem value_core (kf : Nat) (adX adY adV ad0 ad1 : Addr) (X Y : List Int) (cX cY nV cV n0 c0 n1 c1 : Nat) (x y i k i1 k1 x0 x1 y0 y1 v00 v10 v01 v11 a b c d ac bc ae be p00 p10 p01 p11 s1 s2 s3 ab cd den : Int) (w : World)
    (hrX : Kd.C (Kd.int .i64) w (some adX) X.length X) (hcX : X.length ≤ cX) (hrY : Kd.C (Kd.int .i64) w (some adY) Y.length Y) (hcY : Y.length ≤ cY)
    (hi : swashplateref01_part.f kf X x = some i) (hk : swashplateref01_part.f kf Y y = some k)
    (ei1 : IntKind.i64.wrap (i + 1) = i1) (ek1 : IntKind.i64.wrap (k + 1) = k1)
    (bi : decide (0 ≤ i) = true) (bk : decide (0 ≤ k) = true) (bi1 : decide (0 ≤ i1) = true) (bk1 : decide (0 ≤ k1) = true)
    (li : decide (i < (X.length : Int)) = true) (lk : decide (k < (Y.length : Int)) = true) (li1 : decide (i1 < (X.length : Int)) = true) (lk1 : decide (k1 < (Y.length : Int)) = true)
    (vi : decide (i < (nV : Int)) = true) (vi1 : decide (i1 < (nV : Int)) = true)
    (r0 : decide (k < (n0 : Int)) = true) (r01 : decide (k1 < (n0 : Int)) = true) (r1 : decide (k < (n1 : Int)) = true) (r11 : decide (k1 < (n1 : Int)) = true)
    (cx0 : w.cell? (adX.add i.toNat) = some (.int .i64 x0)) (cx1 : w.cell? (adX.add i1.toNat) = some (.int .i64 x1))
    (cy0 : w.cell? (adY.add k.toNat) = some (.int .i64 y0)) (cy1 : w.cell? (adY.add k1.toNat) = some (.int .i64 y1))
    (cv0 : w.cell? (adV.add i.toNat) = some (.slice (some ad0) n0 c0)) (cv1 : w.cell? (adV.add i1.toNat) = some (.slice (some ad1) n1 c1))
    (c00 : w.cell? (ad0.add k.toNat) = some (.int .i64 v00)) (c01 : w.cell? (ad0.add k1.toNat) = some (.int .i64 v01))
    (c10 : w.cell? (ad1.add k.toNat) = some (.int .i64 v10)) (c11 : w.cell? (ad1.add k1.toNat) = some (.int .i64 v11))
    (ea : IntKind.i64.wrap (x1 - x) = a) (eb : IntKind.i64.wrap (x - x0) = b) (ec : IntKind.i64.wrap (y1 - y) = c) (ed : IntKind.i64.wrap (y - y0) = d)
    (eac : IntKind.i64.wrap (a * c) = ac) (ebc : IntKind.i64.wrap (b * c) = bc) (eae : IntKind.i64.wrap (a * d) = ae) (ebe : IntKind.i64.wrap (b * d) = be)
    (e00 : IntKind.i64.wrap (ac * v00) = p00) (e10 : IntKind.i64.wrap (bc * v10) = p10) (e01 : IntKind.i64.wrap (ae * v01) = p01) (e11 : IntKind.i64.wrap (be * v11) = p11)
    (es1 : IntKind.i64.wrap (p00 + p10) = s1) (es2 : IntKind.i64.wrap (s1 + p01) = s2) (es3 : IntKind.i64.wrap (s2 + p11) = s3)
    (eab : IntKind.i64.wrap (x1 - x0) = ab) (ecd : IntKind.i64.wrap (y1 - y0) = cd) (eden : IntKind.i64.wrap (ab * cd) = den) :
    Calls Try.prog 102 #[.agg #[.slice (some adX) X.length cX, .slice (some adY) Y.length cY, .slice (some adV) nV cV], .int .i64 x, .int .i64 y] w fun e w' => e = .returned (.tuple #[.int .i64 s3, .int .i64 den]) ∧ Below w.heap.size w w' := by
  have HRX := Aside0.mk hrX
  have HRY := Aside0.mk hrY
  have HI := Aside0.mk hi
  have HK := Aside0.mk hk
  clear hrX hrY hi hk
  replace bi := eq_true (of_decide_eq_true bi)
  replace bk := eq_true (of_decide_eq_true bk)
  replace bi1 := eq_true (of_decide_eq_true bi1)
  replace bk1 := eq_true (of_decide_eq_true bk1)
  replace li := eq_true (of_decide_eq_true li)
  replace lk := eq_true (of_decide_eq_true lk)
  replace li1 := eq_true (of_decide_eq_true li1)
  replace lk1 := eq_true (of_decide_eq_true lk1)
  replace vi := eq_true (of_decide_eq_true vi)
  replace vi1 := eq_true (of_decide_eq_true vi1)
  replace r0 := eq_true (of_decide_eq_true r0)
  replace r01 := eq_true (of_decide_eq_true r01)
  replace r1 := eq_true (of_decide_eq_true r1)
  replace r11 := eq_true (of_decide_eq_true r11)
  go_enter Try.func102, Try.ntmps102
  go_wp2
  have hb : Below w.heap.size w (w.alloc (.cells #[.slice (some adX) X.length cX, .slice (some adY) Y.length cY, .slice (some adV) nV cV] 25)) := (Below.refl _ _).alloc (Nat.le_refl _) _
  have hT : (w.alloc (.cells #[.slice (some adX) X.length cX, .slice (some adY) Y.length cY, .slice (some adV) nV cV] 25)).heap[w.heap.size]? = some (.cells #[.slice (some adX) X.length cX, .slice (some adY) Y.length cY, .slice (some adV) nV cV] 25 (0, 0)) := blk_new _ _
  obtain ⟨W1, hW1⟩ : ∃ W1, w.alloc (.cells #[.slice (some adX) X.length cX, .slice (some adY) Y.length cY, .slice (some adV) nV cV] 25) = W1 := ⟨_, rfl⟩
  rw [show w.alloc _ = W1 from hW1]
  rw [hW1] at hb hT
  clear hW1
  have tx := (blk_cell hT 0).trans rfl
  have ty := (blk_cell hT 1).trans rfl
  have tv := (blk_cell hT 2).trans rfl
  have HB := Aside0.mk hb
  clear hT
  replace cx0 := (hb.cell (World.block_lt_of_cell? _ _ cx0)).trans cx0
  replace cx1 := (hb.cell (World.block_lt_of_cell? _ _ cx1)).trans cx1
  replace cy0 := (hb.cell (World.block_lt_of_cell? _ _ cy0)).trans cy0
  replace cy1 := (hb.cell (World.block_lt_of_cell? _ _ cy1)).trans cy1
  replace cv0 := (hb.cell (World.block_lt_of_cell? _ _ cv0)).trans cv0
  replace cv1 := (hb.cell (World.block_lt_of_cell? _ _ cv1)).trans cv1
  replace c00 := (hb.cell (World.block_lt_of_cell? _ _ c00)).trans c00
  replace c01 := (hb.cell (World.block_lt_of_cell? _ _ c01)).trans c01
  replace c10 := (hb.cell (World.block_lt_of_cell? _ _ c10)).trans c10
  replace c11 := (hb.cell (World.block_lt_of_cell? _ _ c11)).trans c11
  clear hb
  go_quiet (first
    | (go_at_call 156; (with_reducible refine (swashplateref01_part.calls kf _ _ X x i _ (by exact Kd.C_drewN (Kd.C_below HRX.out HB.out) _) hcX HI.out).mono ?_); rintro e w' ⟨rfl, ⟨nd, rfl⟩⟩; (first | exact ⟨rfl, _, World.drewN_drewN _ _ _⟩ | exact ⟨rfl, _, Eq.trans (World.drewN_drewN _ _ _) (congrArg (World.drewN _) (Nat.add_assoc _ _ _))⟩))
    | (go_at_call 156; (with_reducible refine (swashplateref01_part.calls kf _ _ Y y k _ (by exact Kd.C_drewN (Kd.C_below HRY.out HB.out) _) hcY HK.out).mono ?_); rintro e w' ⟨rfl, ⟨nd, rfl⟩⟩; (first | exact ⟨rfl, _, World.drewN_drewN _ _ _⟩ | exact ⟨rfl, _, Eq.trans (World.drewN_drewN _ _ _) (congrArg (World.drewN _) (Nat.add_assoc _ _ _))⟩)))
  revert nq; intro n1
  go_wp2
  go_quiet (fail)
  revert nq; intro n2
  go_wp2
  go_quiet (fail)
  revert nq; intro n3
  go_wp2
  go_quiet (fail)
  go_wp2
  go_ret2
  exact ⟨rfl, pw_below_drewN (pw_below_drewN HB.out _) _⟩
end Go.Proofs.Yteodlmgmmpkpoaa.PS
end
section
namespace Go.Proofs.Yteodlmgmmpkpoaa.PS
open Go.RowKit Go.Proofs.YteodlmgmmpkpoaaW.PrintWords Go.Proofs.YteodlmgmmpkpoaaW.PrintLast Go.Proofs.YteodlmgmmpkpoaaW.PrintMore
set_option linter.unusedVariables false
set_option linter.unusedSimpArgs false
set_option maxHeartbeats 4000000 in
theorem swashplateref01_Value.calls (A0_0 : Option Addr) (c0_0 : Nat) (l0_0 : List Int) (A0_1 : Option Addr) (c0_1 : Nat) (l0_1 : List Int) (A0_2 : Option Addr) (c0_2 : Nat) (l0_2 : List (List Int)) (a1 : Int) (a2 : Int) (r1 : Int) (r2 : Int) (w : World) (hr0_0 : Kd.C (Kd.int .i64) w A0_0 l0_0.length l0_0) (hc0_0 : l0_0.length ≤ c0_0) (hr0_1 : Kd.C (Kd.int .i64) w A0_1 l0_1.length l0_1) (hc0_1 : l0_1.length ≤ c0_1) (hr0_2 : Kd.C (Kd.slice 3 (Kd.int .i64)) w A0_2 l0_2.length l0_2) (hc0_2 : l0_2.length ≤ c0_2) (h : swashplateref01_Value.f l0_0 l0_1 l0_2 a1 a2 = some (r1, r2)) :
    Calls Try.prog 102 #[.agg #[.slice A0_0 l0_0.length c0_0, .slice A0_1 l0_1.length c0_1, .slice A0_2 l0_2.length c0_2], .int .i64 a1, .int .i64 a2] w fun e w' => e = .returned (.tuple #[.int .i64 r1, .int .i64 r2]) ∧ Below w.heap.size w w' := by
  unfold swashplateref01_Value.f at h
  by_cases hg : (tableB l0_0 l0_1 l0_2 && (onB l0_0 a1 a1 && onB l0_1 a2 a2)) = true
  · rw [if_pos hg] at h
    simp only [Option.some.injEq, Prod.mk.injEq] at h
    obtain ⟨rfl, rfl⟩ := h
    simp only [Bool.and_eq_true] at hg
    obtain ⟨ht, hx, hy⟩ := hg
    have t := tb_of ht
    have q := quad_of t (part_spot t.ax hx) (part_spot t.ay hy)
    have hlx := t.ax.most
    have hly := t.ay.most
    have hltx := q.sx.lt
    have hlty := q.sy.lt
    obtain ⟨adX, rfl, cX⟩ := cell_int hr0_0 (by omega)
    obtain ⟨adY, rfl, cY⟩ := cell_int hr0_1 (by omega)
    obtain ⟨adV, rfl, cV⟩ := cell_rows (m := l0_1.length) hr0_2 (by have := t.len; omega) (by omega) (fun i hi => t.row i (by have := t.len; omega))
    have hci := part_total t.ax a1 13 (by omega)
    have hck := part_total t.ay a2 13 (by omega)
    have h00 := t.val (partOf l0_0 a1) (partOf l0_1 a2) (by omega) (by omega)
    have h10 := t.val (partOf l0_0 a1 + 1) (partOf l0_1 a2) (by omega) (by omega)
    have h01 := t.val (partOf l0_0 a1) (partOf l0_1 a2 + 1) (by omega) (by omega)
    have h11 := t.val (partOf l0_0 a1 + 1) (partOf l0_1 a2 + 1) (by omega) (by omega)
    unfold ptRef numAt denAt
    dsimp only
    generalize partOf l0_0 a1 = i at *
    generalize partOf l0_1 a2 = k at *
    obtain ⟨ar0, c0, hv0, hr0⟩ := cV i (by have := t.len; omega)
    obtain ⟨ar1, c1, hv1, hr1⟩ := cV (i + 1) (by have := t.len; omega)
    have bac := mul_bd q.a0 q.a1 q.c0 q.c1
    have bbc := mul_bd q.b0 q.b1 q.c0 q.c1
    have bad := mul_bd q.a0 q.a1 q.d0 q.d1
    have bbd := mul_bd q.b0 q.b1 q.d0 q.d1
    have p00 := mul_bd2 bac.1 bac.2 h00.1 h00.2 (by decide)
    have p10 := mul_bd2 bbc.1 bbc.2 h10.1 h10.2 (by decide)
    have p01 := mul_bd2 bad.1 bad.2 h01.1 h01.2 (by decide)
    have p11 := mul_bd2 bbd.1 bbd.2 h11.1 h11.2 (by decide)
    have bef := mul_bd (a := gI l0_0 (i + 1) - gI l0_0 i) (b := gI l0_1 (k + 1) - gI l0_1 k) (by have := q.e0; omega) q.e1 (by have := q.f0; omega) q.f1
    have ix0 := t.ax.inn i (by omega)
    have iy0 := t.ay.inn k (by omega)
    have qa0 := q.a0; have qa1 := q.a1; have qb0 := q.b0; have qb1 := q.b1; have qc0 := q.c0; have qc1 := q.c1; have qd0 := q.d0; have qd1 := q.d1
    refine value_core 13 adX adY adV ar0 ar1 l0_0 l0_1 c0_0 c0_1 l0_2.length c0_2 l0_1.length c0 l0_1.length c1 a1 a2 i k (i + 1 : Nat) (k + 1 : Nat) (gI l0_0 i) (gI l0_0 (i + 1)) (gI l0_1 k) (gI l0_1 (k + 1)) (gV l0_2 i k) (gV l0_2 (i + 1) k) (gV l0_2 i (k + 1)) (gV l0_2 (i + 1) (k + 1))
      _ _ _ _ _ _ _ _ _ _ _ _ _ _ _ _ _ _ w hr0_0 hc0_0 hr0_1 hc0_1 hci hck
      (wrI (by omega) (by omega)) (wrI (by omega) (by omega)) ?_ ?_ ?_ ?_ ?_ ?_ ?_ ?_ ?_ ?_ ?_ ?_ ?_ ?_ (cX i (by omega)) (cX (i + 1) (by omega)) (cY k (by omega)) (cY (k + 1) (by omega)) hv0 hv1
      (hr0 k (by omega)) (hr0 (k + 1) (by omega)) (hr1 k (by omega)) (hr1 (k + 1) (by omega))
      (wrI (by omega) (by omega)) (wrI (by omega) (by omega)) (wrI (by omega) (by omega)) (wrI (by omega) (by omega))
      (wrI (by omega) (by omega)) (wrI (by omega) (by omega)) (wrI (by omega) (by omega)) (wrI (by omega) (by omega))
      (wrI (by omega) (by omega)) (wrI (by omega) (by omega)) (wrI (by omega) (by omega)) (wrI (by omega) (by omega))
      (wrI (by omega) (by omega)) (wrI (by omega) (by omega)) (wrI (by omega) (by omega)) (wrI (by omega) (by omega)) (wrI (by omega) (by omega)) (wrI (by omega) (by omega))
    all_goals (rw [decide_eq_true_eq]; have := t.len; omega)
  · rw [if_neg hg] at h
    exact absurd h (by simp)
end Go.Proofs.Yteodlmgmmpkpoaa.PS
end
section
namespace Go.Proofs.Yteodlmgmmpkpoaa.PS
open Go.RowKit Go.Proofs.YteodlmgmmpkpoaaW.PrintWords Go.Proofs.YteodlmgmmpkpoaaW.PrintLast Go.Proofs.YteodlmgmmpkpoaaW.PrintMore
attribute [local go_sem] max2_int min2_int max_two min_two max_three min_three max_four min_four   -- for this text's walks alone
set_option linter.unusedVariables false
set_option linter.unusedSimpArgs false
def swashplateref01_corners.l0 : Nat → List Int → List Int → Int → Int → Int → Option (List Int)
 | 0, _, _, _, _, _ => none
 | k + 1, x0, x5, x6, x169000, x169001 => if x6 < (x0.length : Int) then (if 0 ≤ x6 then (if (rd x0 x6) > x169000 then (if (rd x0 x6) < x169001 then (if x5.length < 17592186044416 then (swashplateref01_corners.l0 k x0 (x5 ++ [rd x0 x6]) (wrap64 (x6 + 1)) x169000 x169001) else (none)) else (swashplateref01_corners.l0 k x0 x5 (wrap64 (x6 + 1)) x169000 x169001)) else (swashplateref01_corners.l0 k x0 x5 (wrap64 (x6 + 1)) x169000 x169001)) else (none)) else (if x169001 > x169000 then (if x5.length < 17592186044416 then (some (x5 ++ [x169001])) else (none)) else (some x5))
def swashplateref01_corners.f (k : Nat) (l0 : List Int) (a1_0 : Int) (a1_1 : Int) : Option (List Int) := swashplateref01_corners.l0 k l0 (([a1_0] : List Int)) 0 a1_0 a1_1
set_option maxHeartbeats 8000000 in
set_option maxRecDepth 100000 in
theorem swashplateref01_corners.calls (k : Nat) (A0 : Option Addr) (c0 : Nat) (l0 : List Int) (a1_0 : Int) (a1_1 : Int) (r : List Int) (w : World) (hr0 : Kd.C (Kd.int .i64) w A0 l0.length l0) (hc0 : l0.length ≤ c0) (h : swashplateref01_corners.f k l0 a1_0 a1_1 = some r) :
  Calls Try.prog 101 #[.slice A0 l0.length c0, .agg #[.int .i64 a1_0, .int .i64 a1_1]] w fun e w' => ∃ v0_ : Value, e = .returned (v0_) ∧ Kd.R (Kd.int .i64) 3 w' w.heap.size (fun _ => True) v0_ r ∧ Below w.heap.size w w' := by
 have hu27 := Try.underlying27
 have HR0 := Aside0.mk hr0
 have HC0 := Aside0.mk hc0
 clear hr0 hc0
 have HB := Aside0.mk (Below.refl w.heap.size w)
 have H : (swashplateref01_corners.l0 k l0 (([a1_0] : List Int)) 0 a1_0 a1_1) = some r := h
 clear h
 obtain ⟨y169, hy169⟩ : ∃ y_ : List Int, y_ = (([a1_0] : List Int)) := ⟨_, rfl⟩
 replace H : (swashplateref01_corners.l0 k l0 y169 0 a1_0 a1_1) = some r := by first | (rw [hy169]; with_reducible exact H) | (have H2_ := (Option.bind_some _ _).symm.trans H; rw [hy169]; with_reducible exact H2_) | (have H2_ := (Option.bind_some _ _).symm.trans H; with_reducible exact H2_) | with_reducible exact H | (rw [hy169]; exact H) | exact H
 have Ny169 := Aside0.mk hy169
 clear hy169
 have H' := Aside0.mk H
 clear H
 go_enter Try.func101, Try.ntmps101
 go_wp2_with (first | ((with_reducible refine gate_dst (N := 3) rfl ?_); refine box_event ?hg (N := 3) ?hd (cs := #[.int .i64 a1_0, .int .i64 a1_1]) (t := 27) ?hr ?_; (case hd => rfl); (case hg => rfl); (case hr => first | (go_simp; done) | (go_simp; rfl)); intro gb168 hg w3 hbox hb; have n0_ := Aside0.mk (below_step (bl_ HB.out) hb); have n1_ := Aside0.mk (hbox); have n2_ := Aside0.mk (szl_ hg HB.out); have n3_ := Aside0.mk (szl_ hg HB.out); clear HB; have HB := n0_; have BK168 := n1_; have GW168 := n2_; have GE168 := n3_; clear n0_ n1_ n2_ n3_ hb hbox hg; have hcz4_0 : w3.cell? ⟨gb168, 0, none⟩ = some (.int .i64 a1_0) := (blk_cell BK168.out 0).trans rfl; have hcz4_1 : w3.cell? ⟨gb168, 1, none⟩ = some (.int .i64 a1_1) := (blk_cell BK168.out 1).trans rfl; have hfz4_0 := blk_frozen BK168.out 0; have hfz4_1 := blk_frozen BK168.out 1) | ((with_reducible refine gate_dst (N := 9) rfl ?_); refine Kd.R_lit (Kd.int .i64) _ 3 ?hg (N := 9) ?hd (xs := ([a1_0] : List Int)) (inner := [.int .i64 a1_0]) (ok := fun _ => True) (okp := fun _ => True) ?hr ?hp (fun _ hk => hk) trivial (Below.refl _ _) (Nat.le_refl _) (by simp) ?_; (case hd => rfl); (case hg => rfl); (case hr => first | (go_simp; done) | (go_simp; rfl)); (case hp => exact (Reps.one (show Kd.M (Kd.int .i64) _ _ _ a1_0 [.int .i64 a1_0] from rfl) (Reps.none _ _))); intro v170 w5 ho6 hb hg_ hnew_; clear hg_ hnew_; (first | rw [← Ny169.out] at ho6 | (simp only [Int.reduceToNat] at ho6; rw [← Ny169.out] at ho6)); have n0_ := Aside0.mk (Kd.R_lower ho6 (below_size (bl_ HB.out))); have n1_ := Aside0.mk (blk_below (bk_ BK168.out) hb); have n2_ := Aside0.mk (below_step (bl_ HB.out) hb); clear BK168 HB; have HO171 := n0_; have BK168 := n1_; have HB := n2_; clear n0_ n1_ n2_ hb ho6))
 go_loopg [5, 6] k (fun kq v5 v6 w' => ∃ (x5_1 : List Int) (x6_1 : Int), v6 = .int .i64 x6_1 ∧ Aside0 (swashplateref01_corners.l0 kq l0 x5_1 x6_1 a1_0 a1_1 = some r) ∧ Aside0 (kq ≤ k) ∧ Aside0 (Kd.R (Kd.int .i64) 3 w' w.heap.size (fun _ => True) v5 x5_1) ∧ Aside0 (w'.heap[gb168]? = some (.cells #[.int .i64 a1_0, .int .i64 a1_1] 27 (0, 0))) ∧ Aside0 (Below w.heap.size w w'))
 case atStart => exact ⟨(y169), (0), (by first | rfl | (simp; done) | (simp [*]; done)), H', ⟨Nat.le_refl _⟩, ⟨by (with_reducible repeat (first | apply Kd.R_alloc | apply Kd.R_drewN | apply Kd.R_drew)); exact HO171.out⟩, ⟨bk_ BK168.out⟩, ⟨bl_ HB.out⟩⟩
 case round =>
  clear H'
  try clear c1
  try clear p2
  try clear hcz4_0
  try clear hcz4_1
  try clear hfz4_0
  try clear hfz4_1
  obtain ⟨x5_1, x6_1, rfl, HA, HK1, HO_5, BK168, HB⟩ := hrel
  cases gk with
  | zero => exact absurd HA.out (by simp [swashplateref01_corners.l0])
  | succ k1 =>
   have H := HA.out
   clear HA
   simp only [swashplateref01_corners.l0] at H
   by_cases c7 : x6_1 < (l0.length : Int)
   ·
    rw [if_pos c7] at H
    have c7b0 : decide (x6_1 < (l0.length : Int)) = true := decide_eq_true c7
    clear c7
    by_cases c8 : 0 ≤ x6_1
    ·
     rw [if_pos c8] at H
     have c8b0 : decide (0 ≤ x6_1) = true := decide_eq_true c8
     clear c8
     by_cases c9 : (rd l0 x6_1) > a1_0
     ·
      rw [if_pos c9] at H
      have c9b0 : decide (a1_0 < (rd l0 x6_1)) = true := decide_eq_true c9
      clear c9
      by_cases c10 : (rd l0 x6_1) < a1_1
      ·
       rw [if_pos c10] at H
       have c10b0 : decide ((rd l0 x6_1) < a1_1) = true := decide_eq_true c10
       clear c10
       by_cases c11 : x5_1.length < 17592186044416
       ·
        rw [if_pos c11] at H
        have LMc11 := Aside0.mk c11
        clear c11
        obtain ⟨y175, hy175⟩ : ∃ y_ : List Int, y_ = (x5_1 ++ [rd l0 x6_1]) := ⟨_, rfl⟩
        replace H : (swashplateref01_corners.l0 k1 l0 y175 (wrap64 (x6_1 + 1)) a1_0 a1_1) = some r := by first | (rw [hy175]; with_reducible exact H) | (have H2_ := (Option.bind_some _ _).symm.trans H; rw [hy175]; with_reducible exact H2_) | (have H2_ := (Option.bind_some _ _).symm.trans H; with_reducible exact H2_) | with_reducible exact H | (rw [hy175]; exact H) | exact H
        have Ny175 := Aside0.mk hy175
        clear hy175
        have H' := Aside0.mk H
        clear H
        have p172 : 0 ≤ (x6_1 : Int) := of_decide_eq_true (by first | (with_reducible assumption) | assumption)
        have q172 : x6_1 < (l0.length : Int) := of_decide_eq_true (by first | (with_reducible assumption) | assumption)
        obtain ⟨ad172, e172, hx172_0⟩ := Kd.at_int HR0.out x6_1 p172 q172
        cases e172
        replace hx172_0 := (HB.out.cell (World.block_lt_of_cell? w _ hx172_0)).trans hx172_0
        replace p172 := eq_true p172
        replace q172 := eq_true q172
        have hcz12_0 : wr.cell? ⟨gb168, 0, none⟩ = some (.int .i64 a1_0) := (blk_cell BK168.out 0).trans rfl
        have hcz12_1 : wr.cell? ⟨gb168, 1, none⟩ = some (.int .i64 a1_1) := (blk_cell BK168.out 1).trans rfl
        have hfz12_0 := blk_frozen BK168.out 0
        have hfz12_1 := blk_frozen BK168.out 1
        have p173 : 0 ≤ (x6_1 : Int) := of_decide_eq_true (by first | (with_reducible assumption) | assumption)
        have q173 : x6_1 < (l0.length : Int) := of_decide_eq_true (by first | (with_reducible assumption) | assumption)
        obtain ⟨ad173, e173, hx173_0⟩ := Kd.at_int HR0.out x6_1 p173 q173
        obtain rfl : ad172 = ad173 := (by injection e173)
        replace hx173_0 := (HB.out.cell (World.block_lt_of_cell? w _ hx173_0)).trans hx173_0
        replace p173 := eq_true p173
        replace q173 := eq_true q173
        have p174 : 0 ≤ (x6_1 : Int) := of_decide_eq_true (by first | (with_reducible assumption) | assumption)
        have q174 : x6_1 < (l0.length : Int) := of_decide_eq_true (by first | (with_reducible assumption) | assumption)
        obtain ⟨ad174, e174, hx174_0⟩ := Kd.at_int HR0.out x6_1 p174 q174
        obtain rfl : ad172 = ad174 := (by injection e174)
        replace hx174_0 := (HB.out.cell (World.block_lt_of_cell? w _ hx174_0)).trans hx174_0
        replace p174 := eq_true p174
        replace q174 := eq_true q174
        go_wp2_with (first | ((with_reducible refine gate_builtin (b := .append) (xs := #[.tmp 32, .tmp 37]) rfl ?_); at_builtin; refine Kd.R_append (Kd.int .i64) (w0 := w) w.heap.size rfl (.tmp 32) (.tmp 37) 22 3 (.int .i64 0) 8 rfl Try.underlying22 info3 rfl (by decide) (by omega) u5 x5_1 (rd l0 x6_1) [.int .i64 (rd l0 x6_1)] (fun _ => True) (fun _ => False) rfl rfl ?aP (fun _ hk => hk.elim) ?aF ?aO ?aB ?aS ?aL ?_; (case aP => exact rfl); (case aB => exact (bl_ HB.out)); (case aF => exact (fun _ _ => trivial)); (case aO => exact (by (with_reducible repeat (first | apply Kd.R_alloc | apply Kd.R_drewN | apply Kd.R_drew)); exact HO_5.out)); (case aS => exact (below_size (bl_ HB.out))); (case aL => have := LMc11.out; omega); intro v176 w13 ho hb hg hat; rw [← Ny175.out] at ho; have n0_ := Aside0.mk (blk_grown (bk_ BK168.out) hg (Kd.R_ne HO_5.out BK168.out (by decide))); have n1_ := Aside0.mk (hb); have n2_ := Aside0.mk (ho); clear BK168 HB HO_5; have BK168 := n0_; have HB := n1_; have HO177 := n2_; clear n0_ n1_ n2_ ho hb hg hat))
        repeat (go_quiet (first | ((with_reducible refine gate_builtin (b := .append) (xs := #[.tmp 32, .tmp 37]) rfl ?_); at_builtin; refine Kd.R_append (Kd.int .i64) (w0 := w) w.heap.size rfl (.tmp 32) (.tmp 37) 22 3 (.int .i64 0) 8 rfl Try.underlying22 info3 rfl (by decide) (by omega) u5 x5_1 (rd l0 x6_1) [.int .i64 (rd l0 x6_1)] (fun _ => True) (fun _ => False) rfl rfl ?aP (fun _ hk => hk.elim) ?aF ?aO ?aB ?aS ?aL ?_; (case aP => exact rfl); (case aB => exact (bl_ HB.out)); (case aF => exact (fun _ _ => trivial)); (case aO => exact (by (with_reducible repeat (first | apply Kd.R_alloc | apply Kd.R_drewN | apply Kd.R_drew)); exact HO_5.out)); (case aS => exact (below_size (bl_ HB.out))); (case aL => have := LMc11.out; omega); intro v176 w13 ho hb hg hat; rw [← Ny175.out] at ho; have n0_ := Aside0.mk (blk_grown (bk_ BK168.out) hg (Kd.R_ne HO_5.out BK168.out (by decide))); have n1_ := Aside0.mk (hb); have n2_ := Aside0.mk (ho); clear BK168 HB HO_5; have BK168 := n0_; have HB := n1_; have HO177 := n2_; clear n0_ n1_ n2_ ho hb hg hat)); try go_wp2_with (first | ((with_reducible refine gate_builtin (b := .append) (xs := #[.tmp 32, .tmp 37]) rfl ?_); at_builtin; refine Kd.R_append (Kd.int .i64) (w0 := w) w.heap.size rfl (.tmp 32) (.tmp 37) 22 3 (.int .i64 0) 8 rfl Try.underlying22 info3 rfl (by decide) (by omega) u5 x5_1 (rd l0 x6_1) [.int .i64 (rd l0 x6_1)] (fun _ => True) (fun _ => False) rfl rfl ?aP (fun _ hk => hk.elim) ?aF ?aO ?aB ?aS ?aL ?_; (case aP => exact rfl); (case aB => exact (bl_ HB.out)); (case aF => exact (fun _ _ => trivial)); (case aO => exact (by (with_reducible repeat (first | apply Kd.R_alloc | apply Kd.R_drewN | apply Kd.R_drew)); exact HO_5.out)); (case aS => exact (below_size (bl_ HB.out))); (case aL => have := LMc11.out; omega); intro v176 w13 ho hb hg hat; rw [← Ny175.out] at ho; have n0_ := Aside0.mk (blk_grown (bk_ BK168.out) hg (Kd.R_ne HO_5.out BK168.out (by decide))); have n1_ := Aside0.mk (hb); have n2_ := Aside0.mk (ho); clear BK168 HB HO_5; have BK168 := n0_; have HB := n1_; have HO177 := n2_; clear n0_ n1_ n2_ ho hb hg hat)))
        go_roundg k1
        case measure => have := HK1.out; omega
        case rel => exact ⟨(y175), (wrap64 (x6_1 + 1)), (by first | rfl | (simp; done) | (simp [*]; done)), H', ⟨by have := HK1.out; omega⟩, ⟨by (with_reducible repeat (first | apply Kd.R_alloc | apply Kd.R_drewN | apply Kd.R_drew)); exact HO177.out⟩, ⟨bk_ BK168.out⟩, ⟨bl_ HB.out⟩⟩
       ·
        rw [if_neg c11] at H
        exact absurd H (by simp)
      ·
       rw [if_neg c10] at H
       have c10b0 : decide ((rd l0 x6_1) < a1_1) = false := decide_eq_false c10
       clear c10
       have H' := Aside0.mk H
       clear H
       have p172 : 0 ≤ (x6_1 : Int) := of_decide_eq_true (by first | (with_reducible assumption) | assumption)
       have q172 : x6_1 < (l0.length : Int) := of_decide_eq_true (by first | (with_reducible assumption) | assumption)
       obtain ⟨ad172, e172, hx172_0⟩ := Kd.at_int HR0.out x6_1 p172 q172
       cases e172
       replace hx172_0 := (HB.out.cell (World.block_lt_of_cell? w _ hx172_0)).trans hx172_0
       replace p172 := eq_true p172
       replace q172 := eq_true q172
       have hcz14_0 : wr.cell? ⟨gb168, 0, none⟩ = some (.int .i64 a1_0) := (blk_cell BK168.out 0).trans rfl
       have hcz14_1 : wr.cell? ⟨gb168, 1, none⟩ = some (.int .i64 a1_1) := (blk_cell BK168.out 1).trans rfl
       have hfz14_0 := blk_frozen BK168.out 0
       have hfz14_1 := blk_frozen BK168.out 1
       have p173 : 0 ≤ (x6_1 : Int) := of_decide_eq_true (by first | (with_reducible assumption) | assumption)
       have q173 : x6_1 < (l0.length : Int) := of_decide_eq_true (by first | (with_reducible assumption) | assumption)
       obtain ⟨ad173, e173, hx173_0⟩ := Kd.at_int HR0.out x6_1 p173 q173
       obtain rfl : ad172 = ad173 := (by injection e173)
       replace hx173_0 := (HB.out.cell (World.block_lt_of_cell? w _ hx173_0)).trans hx173_0
       replace p173 := eq_true p173
       replace q173 := eq_true q173
       go_wp2
       repeat (go_quiet (fail); try go_wp2)
       go_roundg k1
       case measure => have := HK1.out; omega
       case rel => exact ⟨(x5_1), (wrap64 (x6_1 + 1)), (by first | rfl | (simp; done) | (simp [*]; done)), H', ⟨by have := HK1.out; omega⟩, ⟨by (with_reducible repeat (first | apply Kd.R_alloc | apply Kd.R_drewN | apply Kd.R_drew)); exact HO_5.out⟩, ⟨bk_ BK168.out⟩, ⟨bl_ HB.out⟩⟩
     ·
      rw [if_neg c9] at H
      have c9b0 : decide (a1_0 < (rd l0 x6_1)) = false := decide_eq_false c9
      clear c9
      have H' := Aside0.mk H
      clear H
      have p172 : 0 ≤ (x6_1 : Int) := of_decide_eq_true (by first | (with_reducible assumption) | assumption)
      have q172 : x6_1 < (l0.length : Int) := of_decide_eq_true (by first | (with_reducible assumption) | assumption)
      obtain ⟨ad172, e172, hx172_0⟩ := Kd.at_int HR0.out x6_1 p172 q172
      cases e172
      replace hx172_0 := (HB.out.cell (World.block_lt_of_cell? w _ hx172_0)).trans hx172_0
      replace p172 := eq_true p172
      replace q172 := eq_true q172
      have hcz15_0 : wr.cell? ⟨gb168, 0, none⟩ = some (.int .i64 a1_0) := (blk_cell BK168.out 0).trans rfl
      have hcz15_1 : wr.cell? ⟨gb168, 1, none⟩ = some (.int .i64 a1_1) := (blk_cell BK168.out 1).trans rfl
      have hfz15_0 := blk_frozen BK168.out 0
      have hfz15_1 := blk_frozen BK168.out 1
      go_wp2
      repeat (go_quiet (fail); try go_wp2)
      go_roundg k1
      case measure => have := HK1.out; omega
      case rel => exact ⟨(x5_1), (wrap64 (x6_1 + 1)), (by first | rfl | (simp; done) | (simp [*]; done)), H', ⟨by have := HK1.out; omega⟩, ⟨by (with_reducible repeat (first | apply Kd.R_alloc | apply Kd.R_drewN | apply Kd.R_drew)); exact HO_5.out⟩, ⟨bk_ BK168.out⟩, ⟨bl_ HB.out⟩⟩
    ·
     rw [if_neg c8] at H
     exact absurd H (by simp)
   ·
    rw [if_neg c7] at H
    have c7b0 : decide (x6_1 < (l0.length : Int)) = false := decide_eq_false c7
    clear c7
    by_cases c16 : a1_1 > a1_0
    ·
     rw [if_pos c16] at H
     have c16b0 : decide (a1_0 < a1_1) = true := decide_eq_true c16
     clear c16
     by_cases c17 : x5_1.length < 17592186044416
     ·
      rw [if_pos c17] at H
      have LMc17 := Aside0.mk c17
      clear c17
      obtain ⟨y178, hy178⟩ : ∃ y_ : List Int, y_ = (x5_1 ++ [a1_1]) := ⟨_, rfl⟩
      replace H : (some y178) = some r := by first | (rw [hy178]; with_reducible exact H) | (have H2_ := (Option.bind_some _ _).symm.trans H; rw [hy178]; with_reducible exact H2_) | (have H2_ := (Option.bind_some _ _).symm.trans H; with_reducible exact H2_) | with_reducible exact H | (rw [hy178]; exact H) | exact H
      have Ny178 := Aside0.mk hy178
      clear hy178
      obtain rfl := Option.some.inj H
      have hcz18_0 : wr.cell? ⟨gb168, 0, none⟩ = some (.int .i64 a1_0) := (blk_cell BK168.out 0).trans rfl
      have hcz18_1 : wr.cell? ⟨gb168, 1, none⟩ = some (.int .i64 a1_1) := (blk_cell BK168.out 1).trans rfl
      have hfz18_0 := blk_frozen BK168.out 0
      have hfz18_1 := blk_frozen BK168.out 1
      go_wp2_with (first | ((with_reducible refine gate_builtin (b := .append) (xs := #[.tmp 44, .tmp 47]) rfl ?_); at_builtin; refine Kd.R_append (Kd.int .i64) (w0 := w) w.heap.size rfl (.tmp 44) (.tmp 47) 22 3 (.int .i64 0) 8 rfl Try.underlying22 info3 rfl (by decide) (by omega) u5 x5_1 a1_1 [.int .i64 a1_1] (fun _ => True) (fun _ => False) rfl rfl ?aP (fun _ hk => hk.elim) ?aF ?aO ?aB ?aS ?aL ?_; (case aP => exact rfl); (case aB => exact (bl_ HB.out)); (case aF => exact (fun _ _ => trivial)); (case aO => exact (by (with_reducible repeat (first | apply Kd.R_alloc | apply Kd.R_drewN | apply Kd.R_drew)); exact HO_5.out)); (case aS => exact (below_size (bl_ HB.out))); (case aL => have := LMc17.out; omega); intro v179 w19 ho hb hg hat; rw [← Ny178.out] at ho; have n0_ := Aside0.mk (blk_grown (bk_ BK168.out) hg (Kd.R_ne HO_5.out BK168.out (by decide))); have n1_ := Aside0.mk (hb); have n2_ := Aside0.mk (ho); clear BK168 HB HO_5; have BK168 := n0_; have HB := n1_; have HO180 := n2_; clear n0_ n1_ n2_ ho hb hg hat))
      go_ret
      exact ⟨_, by first | rfl | (simp [errW_none, errW_some] <;> rfl) | (simp [*, errW_none, errW_some] <;> rfl), by (with_reducible repeat (first | apply Kd.R_alloc | apply Kd.R_drewN | apply Kd.R_drew)); exact HO180.out, bl_ HB.out⟩
     ·
      rw [if_neg c17] at H
      exact absurd H (by simp)
    ·
     rw [if_neg c16] at H
     have c16b0 : decide (a1_0 < a1_1) = false := decide_eq_false c16
     clear c16
     obtain rfl := Option.some.inj H
     have hcz20_0 : wr.cell? ⟨gb168, 0, none⟩ = some (.int .i64 a1_0) := (blk_cell BK168.out 0).trans rfl
     have hcz20_1 : wr.cell? ⟨gb168, 1, none⟩ = some (.int .i64 a1_1) := (blk_cell BK168.out 1).trans rfl
     have hfz20_0 := blk_frozen BK168.out 0
     have hfz20_1 := blk_frozen BK168.out 1
     go_wp2
     go_ret
     exact ⟨_, by first | rfl | (simp [errW_none, errW_some] <;> rfl) | (simp [*, errW_none, errW_some] <;> rfl), by (with_reducible repeat (first | apply Kd.R_alloc | apply Kd.R_drewN | apply Kd.R_drew)); exact HO_5.out, bl_ HB.out⟩
end Go.Proofs.Yteodlmgmmpkpoaa.PS
end
section
namespace Go.Proofs.Yteodlmgmmpkpoaa.PS
open Go.RowKit Go.Deep Go.ChangeShapes Go.WideShapes Go.ChangeAt Go.Proofs.YteodlmgmmpkpoaaW.PrintWords
set_option linter.unusedVariables false
section
variable {H : Type} {enc : TypeId × Value → H} {w : World} {base : Nat} {held : Bool} {v : Value} {d : DataW H} {ps : List MemPlace} {r : Reach} {b0 : Nat}
set_option maxRecDepth 100000 in
theorem arg27 (hv : Value.okWide Try.prog w r b0 27 v) (h : DataW.Trod enc Try.prog w base (fun _ => true) held 27 v d ps) :
    ∃ x y : Int, v = .agg #[.int .i64 x, .int .i64 y] ∧ wfI x ∧ wfI y := by
  obtain ⟨cs, rfl, hsz⟩ := okWide_struct Try.underlying27 hv
  obtain ⟨c0, c1, rfl⟩ : ∃ a b, cs = #[a, b] := by
    have hs : cs.toList.length = 2 := hsz.trans (by kernel_rfl)
    match h : cs.toList, hs with
    | [a, b], _ => exact ⟨a, b, by rw [← Array.toArray_toList (xs := cs), h]⟩
  obtain ⟨fuel, hf⟩ := h
  obtain ⟨s, hs, h1, h2⟩ := opn27.2 H enc w base held fuel _ _ hf
  have e := k27_open hs
  simp only [Value.cells, List.cons.injEq, and_true] at e
  obtain ⟨rfl, rfl⟩ := e
  exact ⟨s.f0, s.f1, rfl, h1, h2⟩
end
end Go.Proofs.Yteodlmgmmpkpoaa.PS
end
