-- Printed by a program of this session out of the translation (hybrid print) and out of hand proofs. Not trusted: Lean checks it.
import Derived.OwnWalk
import Derived.RegionTactic
import Derived.ChangeAlike
import Derived.Test.YteodlmgmmpkpoaaC1
section
namespace Go.Proofs.Yteodlmgmmpkpoaa.PS
open Go.RowKit Go.Proofs.YteodlmgmmpkpoaaW.PrintWords Go.Proofs.YteodlmgmmpkpoaaW.PrintLast Go.Proofs.YteodlmgmmpkpoaaW.PrintMore
set_option linter.unusedVariables false
set_option linter.unusedSimpArgs false
attribute [local go_sem high] eqA27
attribute [local go_sem] Oper.semAt_some
set_option maxRecDepth 100000 in
set_option maxHeartbeats 4000000 in
theorem computes_core (a0 a1 b0 b1 f0 f1 S0 S1 SE T0 T1 TE U0 U1 UE : Int) (h1 : spans_Add.f a0 a1 b0 b1 = some (S0, S1, SE)) (h2 : swashplateref01_Add.f a0 a1 b0 b1 = some (S0, S1, SE)) (h3 : spans_Times.f a0 a1 b0 b1 = some (T0, T1, TE)) (h4 : swashplateref01_Times.f a0 a1 b0 b1 = some (T0, T1, TE)) (h5 : spans_Part.f 5 a0 a1 f0 f1 = some (U0, U1, UE)) (h6 : swashplateref01_Part.f 5 a0 a1 f0 f1 = some (U0, U1, UE)) (w : World) :
    Calls Try.prog 11 #[.agg #[.int .i64 a0, .int .i64 a1], .agg #[.int .i64 b0, .int .i64 b1], .agg #[.int .i64 f0, .int .i64 f1]] w fun e w' => e = .returned (.bool true) ∧ Below w.heap.size w w' := by
  have H1 := Aside0.mk h1
  have H2 := Aside0.mk h2
  have H3 := Aside0.mk h3
  have H4 := Aside0.mk h4
  have H5 := Aside0.mk h5
  have H6 := Aside0.mk h6
  clear h1 h2 h3 h4 h5 h6
  go_enter Try.func11, Try.ntmps11
  go_wp2_with (first | (go_at_call 42; refine (spans_Add.calls a0 a1 b0 b1 S0 S1 SE _ H1.out).mono ?_; rintro e w1 ⟨rfl, hb1⟩; have K10 := Aside0.mk (blk_below (blk_alloc (blk_alloc (blk_new w (Obj.cells #[Value.int .i64 a0, Value.int .i64 a1] 27)) _) _) hb1); have K11 : Aside0 (w1.heap[w.heap.size + 1]? = some (Obj.cells #[Value.int .i64 b0, Value.int .i64 b1] 27 (0, 0))) := ⟨blk_below (blk_alloc (by have := blk_new (w.alloc (Obj.cells #[Value.int .i64 a0, Value.int .i64 a1] 27)) (Obj.cells #[Value.int .i64 b0, Value.int .i64 b1] 27); rwa [World.size_alloc] at this) _) hb1⟩; have K12 : Aside0 (w1.heap[w.heap.size + 1 + 1]? = some (Obj.cells #[Value.int .i64 f0, Value.int .i64 f1] 28 (0, 0))) := ⟨blk_below (by have := blk_new ((w.alloc (Obj.cells #[Value.int .i64 a0, Value.int .i64 a1] 27)).alloc (Obj.cells #[Value.int .i64 b0, Value.int .i64 b1] 27)) (Obj.cells #[Value.int .i64 f0, Value.int .i64 f1] 28); rwa [World.size_alloc, World.size_alloc] at this) hb1⟩; have HB1 := Aside0.mk (below_step (below_alloc (below_alloc (below_alloc (Below.refl _ _) _) _) _) hb1); clear hb1; have q1_00 : (w1.alloc (Obj.cells #[Value.int .i64 S0, Value.int .i64 S1] 27)).cell? ⟨w.heap.size, 0, none⟩ = some (.int .i64 a0) := (blk_cell (blk_alloc K10.out _) 0).trans rfl; have q1_01 : (w1.alloc (Obj.cells #[Value.int .i64 S0, Value.int .i64 S1] 27)).cell? ⟨w.heap.size, 1, none⟩ = some (.int .i64 a1) := (blk_cell (blk_alloc K10.out _) 1).trans rfl; have q1_10 : (w1.alloc (Obj.cells #[Value.int .i64 S0, Value.int .i64 S1] 27)).cell? ⟨(w.heap.size + 1), 0, none⟩ = some (.int .i64 b0) := (blk_cell (blk_alloc K11.out _) 0).trans rfl; have q1_11 : (w1.alloc (Obj.cells #[Value.int .i64 S0, Value.int .i64 S1] 27)).cell? ⟨(w.heap.size + 1), 1, none⟩ = some (.int .i64 b1) := (blk_cell (blk_alloc K11.out _) 1).trans rfl; have q1_20 : (w1.alloc (Obj.cells #[Value.int .i64 S0, Value.int .i64 S1] 27)).cell? ⟨(w.heap.size + 1 + 1), 0, none⟩ = some (.int .i64 f0) := (blk_cell (blk_alloc K12.out _) 0).trans rfl; have q1_21 : (w1.alloc (Obj.cells #[Value.int .i64 S0, Value.int .i64 S1] 27)).cell? ⟨(w.heap.size + 1 + 1), 1, none⟩ = some (.int .i64 f1) := (blk_cell (blk_alloc K12.out _) 1).trans rfl) | (go_at_call 54; refine (swashplateref01_Add.calls a0 a1 b0 b1 S0 S1 SE _ H2.out).mono ?_; rintro e w2 ⟨rfl, hb2⟩; have K20 := Aside0.mk (blk_below (blk_alloc K10.out _) hb2); have K21 := Aside0.mk (blk_below (blk_alloc K11.out _) hb2); have K22 := Aside0.mk (blk_below (blk_alloc K12.out _) hb2); have K23 := Aside0.mk (blk_below (blk_new w1 (Obj.cells #[Value.int .i64 S0, Value.int .i64 S1] 27)) hb2); have HB2 := Aside0.mk (below_step (below_alloc HB1.out _) hb2); clear hb2; have q2_00 : (w2.alloc (Obj.cells #[Value.int .i64 S0, Value.int .i64 S1] 27)).cell? ⟨w.heap.size, 0, none⟩ = some (.int .i64 a0) := (blk_cell (blk_alloc K20.out _) 0).trans rfl; have q2_01 : (w2.alloc (Obj.cells #[Value.int .i64 S0, Value.int .i64 S1] 27)).cell? ⟨w.heap.size, 1, none⟩ = some (.int .i64 a1) := (blk_cell (blk_alloc K20.out _) 1).trans rfl; have q2_10 : (w2.alloc (Obj.cells #[Value.int .i64 S0, Value.int .i64 S1] 27)).cell? ⟨(w.heap.size + 1), 0, none⟩ = some (.int .i64 b0) := (blk_cell (blk_alloc K21.out _) 0).trans rfl; have q2_11 : (w2.alloc (Obj.cells #[Value.int .i64 S0, Value.int .i64 S1] 27)).cell? ⟨(w.heap.size + 1), 1, none⟩ = some (.int .i64 b1) := (blk_cell (blk_alloc K21.out _) 1).trans rfl; have q2_20 : (w2.alloc (Obj.cells #[Value.int .i64 S0, Value.int .i64 S1] 27)).cell? ⟨(w.heap.size + 1 + 1), 0, none⟩ = some (.int .i64 f0) := (blk_cell (blk_alloc K22.out _) 0).trans rfl; have q2_21 : (w2.alloc (Obj.cells #[Value.int .i64 S0, Value.int .i64 S1] 27)).cell? ⟨(w.heap.size + 1 + 1), 1, none⟩ = some (.int .i64 f1) := (blk_cell (blk_alloc K22.out _) 1).trans rfl; have q2_30 : (w2.alloc (Obj.cells #[Value.int .i64 S0, Value.int .i64 S1] 27)).cell? ⟨w1.heap.size, 0, none⟩ = some (.int .i64 S0) := (blk_cell (blk_alloc K23.out _) 0).trans rfl; have q2_31 : (w2.alloc (Obj.cells #[Value.int .i64 S0, Value.int .i64 S1] 27)).cell? ⟨w1.heap.size, 1, none⟩ = some (.int .i64 S1) := (blk_cell (blk_alloc K23.out _) 1).trans rfl; clear q1_00 q1_01 q1_10 q1_11 q1_20 q1_21) | (go_at_call 55; refine (spans_Times.calls a0 a1 b0 b1 T0 T1 TE _ H3.out).mono ?_; rintro e w3 ⟨rfl, hb3⟩; have K30 := Aside0.mk (blk_below (blk_alloc K20.out _) hb3); have K31 := Aside0.mk (blk_below (blk_alloc K21.out _) hb3); have K32 := Aside0.mk (blk_below (blk_alloc K22.out _) hb3); have K33 := Aside0.mk (blk_below (blk_alloc K23.out _) hb3); have K34 := Aside0.mk (blk_below (blk_new w2 (Obj.cells #[Value.int .i64 S0, Value.int .i64 S1] 27)) hb3); have HB3 := Aside0.mk (below_step (below_alloc HB2.out _) hb3); clear hb3; have q3_00 : (w3.alloc (Obj.cells #[Value.int .i64 T0, Value.int .i64 T1] 27)).cell? ⟨w.heap.size, 0, none⟩ = some (.int .i64 a0) := (blk_cell (blk_alloc K30.out _) 0).trans rfl; have q3_01 : (w3.alloc (Obj.cells #[Value.int .i64 T0, Value.int .i64 T1] 27)).cell? ⟨w.heap.size, 1, none⟩ = some (.int .i64 a1) := (blk_cell (blk_alloc K30.out _) 1).trans rfl; have q3_10 : (w3.alloc (Obj.cells #[Value.int .i64 T0, Value.int .i64 T1] 27)).cell? ⟨(w.heap.size + 1), 0, none⟩ = some (.int .i64 b0) := (blk_cell (blk_alloc K31.out _) 0).trans rfl; have q3_11 : (w3.alloc (Obj.cells #[Value.int .i64 T0, Value.int .i64 T1] 27)).cell? ⟨(w.heap.size + 1), 1, none⟩ = some (.int .i64 b1) := (blk_cell (blk_alloc K31.out _) 1).trans rfl; have q3_20 : (w3.alloc (Obj.cells #[Value.int .i64 T0, Value.int .i64 T1] 27)).cell? ⟨(w.heap.size + 1 + 1), 0, none⟩ = some (.int .i64 f0) := (blk_cell (blk_alloc K32.out _) 0).trans rfl; have q3_21 : (w3.alloc (Obj.cells #[Value.int .i64 T0, Value.int .i64 T1] 27)).cell? ⟨(w.heap.size + 1 + 1), 1, none⟩ = some (.int .i64 f1) := (blk_cell (blk_alloc K32.out _) 1).trans rfl; have q3_30 : (w3.alloc (Obj.cells #[Value.int .i64 T0, Value.int .i64 T1] 27)).cell? ⟨w1.heap.size, 0, none⟩ = some (.int .i64 S0) := (blk_cell (blk_alloc K33.out _) 0).trans rfl; have q3_31 : (w3.alloc (Obj.cells #[Value.int .i64 T0, Value.int .i64 T1] 27)).cell? ⟨w1.heap.size, 1, none⟩ = some (.int .i64 S1) := (blk_cell (blk_alloc K33.out _) 1).trans rfl; have q3_40 : (w3.alloc (Obj.cells #[Value.int .i64 T0, Value.int .i64 T1] 27)).cell? ⟨w2.heap.size, 0, none⟩ = some (.int .i64 S0) := (blk_cell (blk_alloc K34.out _) 0).trans rfl; have q3_41 : (w3.alloc (Obj.cells #[Value.int .i64 T0, Value.int .i64 T1] 27)).cell? ⟨w2.heap.size, 1, none⟩ = some (.int .i64 S1) := (blk_cell (blk_alloc K34.out _) 1).trans rfl; clear q2_00 q2_01 q2_10 q2_11 q2_20 q2_21 q2_30 q2_31) | (go_at_call 56; refine (swashplateref01_Times.calls a0 a1 b0 b1 T0 T1 TE _ H4.out).mono ?_; rintro e w4 ⟨rfl, hb4⟩; have K40 := Aside0.mk (blk_below (blk_alloc K30.out _) hb4); have K41 := Aside0.mk (blk_below (blk_alloc K31.out _) hb4); have K42 := Aside0.mk (blk_below (blk_alloc K32.out _) hb4); have K43 := Aside0.mk (blk_below (blk_alloc K33.out _) hb4); have K44 := Aside0.mk (blk_below (blk_alloc K34.out _) hb4); have K45 := Aside0.mk (blk_below (blk_new w3 (Obj.cells #[Value.int .i64 T0, Value.int .i64 T1] 27)) hb4); have HB4 := Aside0.mk (below_step (below_alloc HB3.out _) hb4); clear hb4; have q4_00 : (w4.alloc (Obj.cells #[Value.int .i64 T0, Value.int .i64 T1] 27)).cell? ⟨w.heap.size, 0, none⟩ = some (.int .i64 a0) := (blk_cell (blk_alloc K40.out _) 0).trans rfl; have q4_01 : (w4.alloc (Obj.cells #[Value.int .i64 T0, Value.int .i64 T1] 27)).cell? ⟨w.heap.size, 1, none⟩ = some (.int .i64 a1) := (blk_cell (blk_alloc K40.out _) 1).trans rfl; have q4_10 : (w4.alloc (Obj.cells #[Value.int .i64 T0, Value.int .i64 T1] 27)).cell? ⟨(w.heap.size + 1), 0, none⟩ = some (.int .i64 b0) := (blk_cell (blk_alloc K41.out _) 0).trans rfl; have q4_11 : (w4.alloc (Obj.cells #[Value.int .i64 T0, Value.int .i64 T1] 27)).cell? ⟨(w.heap.size + 1), 1, none⟩ = some (.int .i64 b1) := (blk_cell (blk_alloc K41.out _) 1).trans rfl; have q4_20 : (w4.alloc (Obj.cells #[Value.int .i64 T0, Value.int .i64 T1] 27)).cell? ⟨(w.heap.size + 1 + 1), 0, none⟩ = some (.int .i64 f0) := (blk_cell (blk_alloc K42.out _) 0).trans rfl; have q4_21 : (w4.alloc (Obj.cells #[Value.int .i64 T0, Value.int .i64 T1] 27)).cell? ⟨(w.heap.size + 1 + 1), 1, none⟩ = some (.int .i64 f1) := (blk_cell (blk_alloc K42.out _) 1).trans rfl; have q4_30 : (w4.alloc (Obj.cells #[Value.int .i64 T0, Value.int .i64 T1] 27)).cell? ⟨w1.heap.size, 0, none⟩ = some (.int .i64 S0) := (blk_cell (blk_alloc K43.out _) 0).trans rfl; have q4_31 : (w4.alloc (Obj.cells #[Value.int .i64 T0, Value.int .i64 T1] 27)).cell? ⟨w1.heap.size, 1, none⟩ = some (.int .i64 S1) := (blk_cell (blk_alloc K43.out _) 1).trans rfl; have q4_40 : (w4.alloc (Obj.cells #[Value.int .i64 T0, Value.int .i64 T1] 27)).cell? ⟨w2.heap.size, 0, none⟩ = some (.int .i64 S0) := (blk_cell (blk_alloc K44.out _) 0).trans rfl; have q4_41 : (w4.alloc (Obj.cells #[Value.int .i64 T0, Value.int .i64 T1] 27)).cell? ⟨w2.heap.size, 1, none⟩ = some (.int .i64 S1) := (blk_cell (blk_alloc K44.out _) 1).trans rfl; have q4_50 : (w4.alloc (Obj.cells #[Value.int .i64 T0, Value.int .i64 T1] 27)).cell? ⟨w3.heap.size, 0, none⟩ = some (.int .i64 T0) := (blk_cell (blk_alloc K45.out _) 0).trans rfl; have q4_51 : (w4.alloc (Obj.cells #[Value.int .i64 T0, Value.int .i64 T1] 27)).cell? ⟨w3.heap.size, 1, none⟩ = some (.int .i64 T1) := (blk_cell (blk_alloc K45.out _) 1).trans rfl; clear q3_00 q3_01 q3_10 q3_11 q3_20 q3_21 q3_30 q3_31 q3_40 q3_41) | (go_at_call 57; refine (spans_Part.calls 5 a0 a1 f0 f1 U0 U1 UE _ H5.out).mono ?_; rintro e w5 ⟨rfl, hb5⟩; have K50 := Aside0.mk (blk_below (blk_alloc K40.out _) hb5); have K51 := Aside0.mk (blk_below (blk_alloc K41.out _) hb5); have K52 := Aside0.mk (blk_below (blk_alloc K42.out _) hb5); have K53 := Aside0.mk (blk_below (blk_alloc K43.out _) hb5); have K54 := Aside0.mk (blk_below (blk_alloc K44.out _) hb5); have K55 := Aside0.mk (blk_below (blk_alloc K45.out _) hb5); have K56 := Aside0.mk (blk_below (blk_new w4 (Obj.cells #[Value.int .i64 T0, Value.int .i64 T1] 27)) hb5); have HB5 := Aside0.mk (below_step (below_alloc HB4.out _) hb5); clear hb5; have q5_00 : (w5.alloc (Obj.cells #[Value.int .i64 U0, Value.int .i64 U1] 27)).cell? ⟨w.heap.size, 0, none⟩ = some (.int .i64 a0) := (blk_cell (blk_alloc K50.out _) 0).trans rfl; have q5_01 : (w5.alloc (Obj.cells #[Value.int .i64 U0, Value.int .i64 U1] 27)).cell? ⟨w.heap.size, 1, none⟩ = some (.int .i64 a1) := (blk_cell (blk_alloc K50.out _) 1).trans rfl; have q5_10 : (w5.alloc (Obj.cells #[Value.int .i64 U0, Value.int .i64 U1] 27)).cell? ⟨(w.heap.size + 1), 0, none⟩ = some (.int .i64 b0) := (blk_cell (blk_alloc K51.out _) 0).trans rfl; have q5_11 : (w5.alloc (Obj.cells #[Value.int .i64 U0, Value.int .i64 U1] 27)).cell? ⟨(w.heap.size + 1), 1, none⟩ = some (.int .i64 b1) := (blk_cell (blk_alloc K51.out _) 1).trans rfl; have q5_20 : (w5.alloc (Obj.cells #[Value.int .i64 U0, Value.int .i64 U1] 27)).cell? ⟨(w.heap.size + 1 + 1), 0, none⟩ = some (.int .i64 f0) := (blk_cell (blk_alloc K52.out _) 0).trans rfl; have q5_21 : (w5.alloc (Obj.cells #[Value.int .i64 U0, Value.int .i64 U1] 27)).cell? ⟨(w.heap.size + 1 + 1), 1, none⟩ = some (.int .i64 f1) := (blk_cell (blk_alloc K52.out _) 1).trans rfl; have q5_30 : (w5.alloc (Obj.cells #[Value.int .i64 U0, Value.int .i64 U1] 27)).cell? ⟨w1.heap.size, 0, none⟩ = some (.int .i64 S0) := (blk_cell (blk_alloc K53.out _) 0).trans rfl; have q5_31 : (w5.alloc (Obj.cells #[Value.int .i64 U0, Value.int .i64 U1] 27)).cell? ⟨w1.heap.size, 1, none⟩ = some (.int .i64 S1) := (blk_cell (blk_alloc K53.out _) 1).trans rfl; have q5_40 : (w5.alloc (Obj.cells #[Value.int .i64 U0, Value.int .i64 U1] 27)).cell? ⟨w2.heap.size, 0, none⟩ = some (.int .i64 S0) := (blk_cell (blk_alloc K54.out _) 0).trans rfl; have q5_41 : (w5.alloc (Obj.cells #[Value.int .i64 U0, Value.int .i64 U1] 27)).cell? ⟨w2.heap.size, 1, none⟩ = some (.int .i64 S1) := (blk_cell (blk_alloc K54.out _) 1).trans rfl; have q5_50 : (w5.alloc (Obj.cells #[Value.int .i64 U0, Value.int .i64 U1] 27)).cell? ⟨w3.heap.size, 0, none⟩ = some (.int .i64 T0) := (blk_cell (blk_alloc K55.out _) 0).trans rfl; have q5_51 : (w5.alloc (Obj.cells #[Value.int .i64 U0, Value.int .i64 U1] 27)).cell? ⟨w3.heap.size, 1, none⟩ = some (.int .i64 T1) := (blk_cell (blk_alloc K55.out _) 1).trans rfl; have q5_60 : (w5.alloc (Obj.cells #[Value.int .i64 U0, Value.int .i64 U1] 27)).cell? ⟨w4.heap.size, 0, none⟩ = some (.int .i64 T0) := (blk_cell (blk_alloc K56.out _) 0).trans rfl; have q5_61 : (w5.alloc (Obj.cells #[Value.int .i64 U0, Value.int .i64 U1] 27)).cell? ⟨w4.heap.size, 1, none⟩ = some (.int .i64 T1) := (blk_cell (blk_alloc K56.out _) 1).trans rfl; clear q4_00 q4_01 q4_10 q4_11 q4_20 q4_21 q4_30 q4_31 q4_40 q4_41 q4_50 q4_51) | (go_at_call 58; refine (swashplateref01_Part.calls 5 a0 a1 f0 f1 U0 U1 UE _ H6.out).mono ?_; rintro e w6 ⟨rfl, hb6⟩; have K60 := Aside0.mk (blk_below (blk_alloc K50.out _) hb6); have K61 := Aside0.mk (blk_below (blk_alloc K51.out _) hb6); have K62 := Aside0.mk (blk_below (blk_alloc K52.out _) hb6); have K63 := Aside0.mk (blk_below (blk_alloc K53.out _) hb6); have K64 := Aside0.mk (blk_below (blk_alloc K54.out _) hb6); have K65 := Aside0.mk (blk_below (blk_alloc K55.out _) hb6); have K66 := Aside0.mk (blk_below (blk_alloc K56.out _) hb6); have K67 := Aside0.mk (blk_below (blk_new w5 (Obj.cells #[Value.int .i64 U0, Value.int .i64 U1] 27)) hb6); have HB6 := Aside0.mk (below_step (below_alloc HB5.out _) hb6); clear hb6; have q6_00 : (w6.alloc (Obj.cells #[Value.int .i64 U0, Value.int .i64 U1] 27)).cell? ⟨w.heap.size, 0, none⟩ = some (.int .i64 a0) := (blk_cell (blk_alloc K60.out _) 0).trans rfl; have q6_01 : (w6.alloc (Obj.cells #[Value.int .i64 U0, Value.int .i64 U1] 27)).cell? ⟨w.heap.size, 1, none⟩ = some (.int .i64 a1) := (blk_cell (blk_alloc K60.out _) 1).trans rfl; have q6_10 : (w6.alloc (Obj.cells #[Value.int .i64 U0, Value.int .i64 U1] 27)).cell? ⟨(w.heap.size + 1), 0, none⟩ = some (.int .i64 b0) := (blk_cell (blk_alloc K61.out _) 0).trans rfl; have q6_11 : (w6.alloc (Obj.cells #[Value.int .i64 U0, Value.int .i64 U1] 27)).cell? ⟨(w.heap.size + 1), 1, none⟩ = some (.int .i64 b1) := (blk_cell (blk_alloc K61.out _) 1).trans rfl; have q6_20 : (w6.alloc (Obj.cells #[Value.int .i64 U0, Value.int .i64 U1] 27)).cell? ⟨(w.heap.size + 1 + 1), 0, none⟩ = some (.int .i64 f0) := (blk_cell (blk_alloc K62.out _) 0).trans rfl; have q6_21 : (w6.alloc (Obj.cells #[Value.int .i64 U0, Value.int .i64 U1] 27)).cell? ⟨(w.heap.size + 1 + 1), 1, none⟩ = some (.int .i64 f1) := (blk_cell (blk_alloc K62.out _) 1).trans rfl; have q6_30 : (w6.alloc (Obj.cells #[Value.int .i64 U0, Value.int .i64 U1] 27)).cell? ⟨w1.heap.size, 0, none⟩ = some (.int .i64 S0) := (blk_cell (blk_alloc K63.out _) 0).trans rfl; have q6_31 : (w6.alloc (Obj.cells #[Value.int .i64 U0, Value.int .i64 U1] 27)).cell? ⟨w1.heap.size, 1, none⟩ = some (.int .i64 S1) := (blk_cell (blk_alloc K63.out _) 1).trans rfl; have q6_40 : (w6.alloc (Obj.cells #[Value.int .i64 U0, Value.int .i64 U1] 27)).cell? ⟨w2.heap.size, 0, none⟩ = some (.int .i64 S0) := (blk_cell (blk_alloc K64.out _) 0).trans rfl; have q6_41 : (w6.alloc (Obj.cells #[Value.int .i64 U0, Value.int .i64 U1] 27)).cell? ⟨w2.heap.size, 1, none⟩ = some (.int .i64 S1) := (blk_cell (blk_alloc K64.out _) 1).trans rfl; have q6_50 : (w6.alloc (Obj.cells #[Value.int .i64 U0, Value.int .i64 U1] 27)).cell? ⟨w3.heap.size, 0, none⟩ = some (.int .i64 T0) := (blk_cell (blk_alloc K65.out _) 0).trans rfl; have q6_51 : (w6.alloc (Obj.cells #[Value.int .i64 U0, Value.int .i64 U1] 27)).cell? ⟨w3.heap.size, 1, none⟩ = some (.int .i64 T1) := (blk_cell (blk_alloc K65.out _) 1).trans rfl; have q6_60 : (w6.alloc (Obj.cells #[Value.int .i64 U0, Value.int .i64 U1] 27)).cell? ⟨w4.heap.size, 0, none⟩ = some (.int .i64 T0) := (blk_cell (blk_alloc K66.out _) 0).trans rfl; have q6_61 : (w6.alloc (Obj.cells #[Value.int .i64 U0, Value.int .i64 U1] 27)).cell? ⟨w4.heap.size, 1, none⟩ = some (.int .i64 T1) := (blk_cell (blk_alloc K66.out _) 1).trans rfl; have q6_70 : (w6.alloc (Obj.cells #[Value.int .i64 U0, Value.int .i64 U1] 27)).cell? ⟨w5.heap.size, 0, none⟩ = some (.int .i64 U0) := (blk_cell (blk_alloc K67.out _) 0).trans rfl; have q6_71 : (w6.alloc (Obj.cells #[Value.int .i64 U0, Value.int .i64 U1] 27)).cell? ⟨w5.heap.size, 1, none⟩ = some (.int .i64 U1) := (blk_cell (blk_alloc K67.out _) 1).trans rfl; have q6_80 : (w6.alloc (Obj.cells #[Value.int .i64 U0, Value.int .i64 U1] 27)).cell? ⟨w6.heap.size, 0, none⟩ = some (.int .i64 U0) := (blk_cell (blk_new w6 (Obj.cells #[Value.int .i64 U0, Value.int .i64 U1] 27)) 0).trans rfl; have q6_81 : (w6.alloc (Obj.cells #[Value.int .i64 U0, Value.int .i64 U1] 27)).cell? ⟨w6.heap.size, 1, none⟩ = some (.int .i64 U1) := (blk_cell (blk_new w6 (Obj.cells #[Value.int .i64 U0, Value.int .i64 U1] 27)) 1).trans rfl; have HB7 := Aside0.mk (below_alloc HB6.out (Obj.cells #[Value.int .i64 U0, Value.int .i64 U1] 27)); clear q5_00 q5_01 q5_10 q5_11 q5_20 q5_21 q5_30 q5_31 q5_40 q5_41 q5_50 q5_51 q5_60 q5_61) | (go_at_call 22; refine (swashplatelaw01_works.calls 100 true _ works_total).mono ?_; rintro e w7 ⟨rfl, hb7⟩; have HB8 := Aside0.mk (below_step (w := w) (by repeat (first | exact HB7.out | apply below_drew)) hb7); clear hb7))
  go_ret
  exact ⟨rfl, HB8.out⟩
end Go.Proofs.Yteodlmgmmpkpoaa.PS
end
section
namespace Go.Proofs.Yteodlmgmmpkpoaa.PS
open Go.RowKit Go.Proofs.YteodlmgmmpkpoaaW.PrintWords Go.Proofs.YteodlmgmmpkpoaaW.PrintLast Go.Proofs.YteodlmgmmpkpoaaW.PrintMore
set_option linter.unusedVariables false
theorem two_total (a0 a1 b0 b1 : Int) : swashplateref01_two.f a0 a1 b0 b1 = some (if okS a0 a1 && okS b0 b1 then 0 else 10) := by
  unfold swashplateref01_two.f
  rw [rvalid_total, Option.bind_some]
  cases okS a0 a1 with
  | false => rw [if_neg (by simp)]; rfl
  | true =>
    rw [if_pos rfl, rvalid_total, Option.bind_some]
    cases okS b0 b1 with
    | false => rw [if_neg (by simp)]; rfl
    | true => rw [if_pos rfl]; rfl
theorem spanned2 (a0 a1 b0 b1 : Int) : spans_spanned.f [⟨a0, a1⟩, ⟨b0, b1⟩] = some (if okS a0 a1 && okS b0 b1 then 0 else 10) := by
  unfold spans_spanned.f
  simp only [List.all_cons, List.all_nil, Bool.and_true]
end Go.Proofs.Yteodlmgmmpkpoaa.PS
end
section
namespace Go.Proofs.Yteodlmgmmpkpoaa.PS
open Go.RowKit Go.Proofs.YteodlmgmmpkpoaaW.PrintWords Go.Proofs.YteodlmgmmpkpoaaW.PrintLast Go.Proofs.YteodlmgmmpkpoaaW.PrintMore
set_option linter.unusedVariables false
def madeT (a b : Int) : Int × Int × Int := if okS a b then (a, b, 0) else (0, 0, 2)
theorem rmade_total (a b : Int) : swashplateref01_made.f a b = some (madeT a b) := by
  unfold swashplateref01_made.f madeT
  rw [rvalid_total, Option.bind_some]
  cases okS a b <;> rfl
theorem made_totalT (a b : Int) : spans_made.f a b = some (madeT a b) := made_total a b
theorem add_pure (a0 a1 b0 b1 : Int) : ∃ r1 r2 r3, spans_Add.f a0 a1 b0 b1 = some (r1, r2, r3) ∧ swashplateref01_Add.f a0 a1 b0 b1 = some (r1, r2, r3) := by
  unfold spans_Add.f swashplateref01_Add.f
  rw [spanned2, two_total]
  cases (okS a0 a1 && okS b0 b1) with
  | false => exact ⟨0, 0, 10, rfl, rfl⟩
  | true =>
    refine ⟨(madeT (wrap64 (a0 + b0)) (wrap64 (a1 + b1))).1, (madeT (wrap64 (a0 + b0)) (wrap64 (a1 + b1))).2.1, (madeT (wrap64 (a0 + b0)) (wrap64 (a1 + b1))).2.2, ?_, ?_⟩
    · rw [if_pos rfl, Option.bind_some, if_pos rfl, made_totalT]; rfl
    · rw [if_pos rfl, Option.bind_some, if_pos rfl, rmade_total]; rfl
theorem times_pure (a0 a1 b0 b1 : Int) : ∃ r1 r2 r3, spans_Times.f a0 a1 b0 b1 = some (r1, r2, r3) ∧ swashplateref01_Times.f a0 a1 b0 b1 = some (r1, r2, r3) := by
  cases hk : (okS a0 a1 && okS b0 b1) with
  | false =>
    refine ⟨0, 0, 10, ?_, ?_⟩
    · unfold spans_Times.f; rw [hk]; rfl
    · unfold swashplateref01_Times.f; rw [two_total, hk]; rfl
  | true =>
    have hh := hk
    simp only [okS, Bool.and_eq_true, decide_eq_true_eq] at hh
    have e1 := small_mul (a := a0) (b := b0) (by omega) (by omega) (by omega) (by omega)
    have e2 := small_mul (a := a0) (b := b1) (by omega) (by omega) (by omega) (by omega)
    have e3 := small_mul (a := a1) (b := b0) (by omega) (by omega) (by omega) (by omega)
    have e4 := small_mul (a := a1) (b := b1) (by omega) (by omega) (by omega) (by omega)
    have m1 : mn (mn (mn (a0 * b0) (a0 * b1)) (a1 * b0)) (a1 * b1) = min (min (a0 * b0) (a0 * b1)) (min (a1 * b0) (a1 * b1)) := times_min _ _ _ _
    have m2 : mx (mx (mx (a0 * b0) (a0 * b1)) (a1 * b0)) (a1 * b1) = max (max (a0 * b0) (a0 * b1)) (max (a1 * b0) (a1 * b1)) := times_max _ _ _ _
    obtain ⟨m, hm⟩ : ∃ m, min (min (a0 * b0) (a0 * b1)) (min (a1 * b0) (a1 * b1)) = m := ⟨_, rfl⟩
    obtain ⟨n, hn⟩ : ∃ n, max (max (a0 * b0) (a0 * b1)) (max (a1 * b0) (a1 * b1)) = n := ⟨_, rfl⟩
    refine ⟨(madeT m n).1, (madeT m n).2.1, (madeT m n).2.2, ?_, ?_⟩
    · unfold spans_Times.f; rw [hk, if_pos rfl, hm, hn]; rfl
    · unfold swashplateref01_Times.f
      rw [two_total, hk, if_pos rfl, Option.bind_some, if_pos rfl, wr64 (n := a0 * b0) (by omega) (by omega), wr64 (n := a0 * b1) (by omega) (by omega), wr64 (n := a1 * b0) (by omega) (by omega), wr64 (n := a1 * b1) (by omega) (by omega), m1, m2, hm, hn, rmade_total]
      rfl
theorem spanned1 (a0 a1 : Int) : spans_spanned.f [⟨a0, a1⟩] = some (if okS a0 a1 then 0 else 10) := by
  unfold spans_spanned.f
  simp only [List.all_cons, List.all_nil, Bool.and_true]
theorem part_pure (a0 a1 n d : Int) : ∃ r1 r2 r3, spans_Part.f 5 a0 a1 n d = some (r1, r2, r3) ∧ swashplateref01_Part.f 5 a0 a1 n d = some (r1, r2, r3) := by
  unfold spans_Part.f swashplateref01_Part.f
  rw [spanned1, rvalid_total, within_total, from_total]
  cases hk : okS a0 a1 with
  | false => exact ⟨0, 0, 10, rfl, rfl⟩
  | true =>
    simp only [okS, Bool.and_eq_true, decide_eq_true_eq] at hk
    rw [if_pos rfl, Option.bind_some, if_pos rfl, Option.bind_some, Option.bind_some, if_pos rfl, Option.bind_some]
    cases hn : (decide (0 ≤ n) && decide (n ≤ 1000)) with
    | false =>
      rw [if_neg (by simp), if_neg (by simp)]
      exact ⟨0, 0, 1, rfl, rfl⟩
    | true =>
      rw [if_pos rfl, if_pos rfl, within_total, from_total, Option.bind_some, Option.bind_some]
      cases hd : (decide (1 ≤ d) && decide (d ≤ 1000)) with
      | false => exact ⟨0, 0, 1, rfl, rfl⟩
      | true =>
        simp only [Bool.and_eq_true, decide_eq_true_eq] at hn hd
        have e1 := small_mul (a := a0) (b := n) (by omega) (by omega) (by omega) (by omega)
        have e2 := small_mul (a := a1) (b := n) (by omega) (by omega) (by omega) (by omega)
        simp only [spans_Part.j0, swashplateref01_Part.j0]
        rw [wr64 (n := a0 * n) (by omega) (by omega), wr64 (n := a1 * n) (by omega) (by omega), floor_total _ _ (by omega) (by omega) (by omega), ceil_total _ _ (by omega) (by omega) (by omega), rfloor_total _ _ (by omega) (by omega) (by omega) (by omega), rceil_total _ _ (by omega) (by omega) (by omega) (by omega)]
        obtain ⟨m, hm⟩ : ∃ m, a0 * n / d = m := ⟨_, rfl⟩
        obtain ⟨k, hk2⟩ : ∃ k, -(-(a1 * n) / d) = k := ⟨_, rfl⟩
        rw [hm, hk2]
        refine ⟨(madeT m k).1, (madeT m k).2.1, (madeT m k).2.2, ?_, ?_⟩
        · rw [if_neg (by simp), Option.bind_some, Option.bind_some, made_totalT]; rfl
        · rw [if_neg (by simp), Option.bind_some, Option.bind_some, rmade_total]; rfl
end Go.Proofs.Yteodlmgmmpkpoaa.PS
end
section
namespace Go.Proofs.Yteodlmgmmpkpoaa.PS
open Go.RowKit Go.Deep Go.ChangeShapes Go.WideShapes Go.ChangeAt Go.Proofs.YteodlmgmmpkpoaaW.PrintWords
set_option linter.unusedVariables false
section
variable {H : Type} {enc : TypeId × Value → H} {w : World} {base : Nat} {held : Bool} {v : Value} {d : DataW H} {ps : List MemPlace} {r : Reach} {b0 : Nat}
set_option maxRecDepth 100000 in
theorem arg27 (hv : Value.okWide Try.prog w r b0 27 v) (h : DataW.Trod enc Try.prog w base (fun _ => true) held 27 v d ps) :
    ∃ x y : Int, v = .agg #[.int .i64 x, .int .i64 y] ∧ wfI x ∧ wfI y := by
  obtain ⟨cs, rfl, hsz⟩ := okWide_struct Try.underlying27 hv
  obtain ⟨c0, c1, rfl⟩ : ∃ a b, cs = #[a, b] := by
    have hs : cs.toList.length = 2 := hsz.trans (by kernel_rfl)
    match h : cs.toList, hs with
    | [a, b], _ => exact ⟨a, b, by rw [← Array.toArray_toList (xs := cs), h]⟩
  obtain ⟨fuel, hf⟩ := h
  obtain ⟨s, hs, h1, h2⟩ := opn27.2 H enc w base held fuel _ _ hf
  have e := k27_open hs
  simp only [Value.cells, List.cons.injEq, and_true] at e
  obtain ⟨rfl, rfl⟩ := e
  exact ⟨s.f0, s.f1, rfl, h1, h2⟩
end
end Go.Proofs.Yteodlmgmmpkpoaa.PS
end
section
namespace Go.Proofs.Yteodlmgmmpkpoaa.PS
open Go.RowKit Go.Deep Go.ChangeShapes Go.WideShapes Go.ChangeAt Go.Proofs.YteodlmgmmpkpoaaW.PrintWords
set_option linter.unusedVariables false
section
variable {H : Type} {enc : TypeId × Value → H} {w : World} {base : Nat} {held : Bool} {v : Value} {d : DataW H} {ps : List MemPlace} {r : Reach} {b0 : Nat}
set_option maxRecDepth 100000 in
theorem arg28 (hv : Value.okWide Try.prog w r b0 28 v) (h : DataW.Trod enc Try.prog w base (fun _ => true) held 28 v d ps) :
    ∃ x y : Int, v = .agg #[.int .i64 x, .int .i64 y] ∧ wfI x ∧ wfI y := by
  have hv' := hv
  unfold Value.okWide at hv'
  rw [Try.underlying28] at hv'
  obtain ⟨cs, rfl, hsz, _⟩ := hv'
  obtain ⟨c0, c1, rfl⟩ : ∃ a b, cs = #[a, b] := by
    have hs : cs.toList.length = 2 := hsz.trans (by kernel_rfl)
    match h : cs.toList, hs with
    | [a, b], _ => exact ⟨a, b, by rw [← Array.toArray_toList (xs := cs), h]⟩
  obtain ⟨fuel, hf⟩ := h
  obtain ⟨xs, m, _, _, _, hl, hx⟩ := DataW.trod_array Try.underlying28 hf
  have e3 : Try.prog.cellsOf 3 = 1 := by kernel_rfl
  have h0 := hx 0 (by omega)
  have h1 := hx 1 (by omega)
  match xs, hl with
  | [y0, y1], _ =>
    simp only [e3, Value.cells, Nat.zero_mul, Nat.one_mul, List.drop_zero, List.drop_succ_cons, List.take_succ_cons, List.take_zero, List.getElem?_cons_zero, List.getElem?_cons_succ] at h0 h1
    obtain ⟨x, hx0, _, wx⟩ := DataW.trod_int Try.underlying3 h0
    obtain ⟨y, hy0, _, wy⟩ := DataW.trod_int Try.underlying3 h1
    simp only [List.cons.injEq, and_true] at hx0 hy0
    subst hx0 hy0
    exact ⟨x, y, rfl, wx, wy⟩
end
set_option maxRecDepth 100000 in
theorem liftedComputes (os : Os) (started : os.Started) (H : Type) (enc : TypeId × Value → H) :
    ReturnsInHanded {} Try.checked os 11 .any (Rows.spansComputesSpec.pre6 enc Try.prog Try.f11 Rows.spansComputesRow.domain false) (Rows.spansComputesSpec.post enc Try.prog Try.f11 false true false false) := by
  refine returnsInHanded_of_change (C := Try.checked) ownNone started (by kernel_rfl) Try.func11
    (ChangeSpec.witness6 (enc := enc) (C := Try.checked) false ⟨#[], #[.agg #[.int .i64 0, .int .i64 0], .agg #[.int .i64 0, .int .i64 0], .agg #[.int .i64 0, .int .i64 0]], []⟩ 8 (by kernel_rfl) (by kernel_rfl) (by kernel_rfl) (by kernel_rfl)) ?_
  intro W base args ds gs before hval0 hW hcnd _
  have hval : ∀ (j : Nat) t v, Try.f11.params[j]? = some t → args[j]? = some v → Value.okWide Try.prog W .any base t v := hval0
  have hW' := hW
  obtain ⟨p, q, hA0, hV, rfl, hfz, hnd⟩ := hW
  have hA : DataW.TrodAll enc Try.prog W 0 (fun _ => true) true Try.f11.params.toList args.toList ds p := hA0
  rw [Try.params11] at hA hval
  obtain ⟨v0, vs0, d0, ds0, p0, q0, hargs, rfl, rfl, h0, r0⟩ := trodAll_cons hA
  obtain ⟨v1, vs1, d1, ds1, p1, q1, rfl, rfl, rfl, h1, r1⟩ := trodAll_cons r0
  obtain ⟨v2, vs2, d2, ds2, p2, q2, rfl, rfl, rfl, h2, r2⟩ := trodAll_cons r1
  obtain ⟨rfl, rfl, rfl⟩ := trodAll_nil r2
  obtain rfl : args = #[v0, v1, v2] := by cases args; simp_all
  obtain ⟨rfl, rfl⟩ := trodVars_none hV
  have k0 := h0
  have lt0 : ∀ x ∈ p0, x.block < W.heap.size := by obtain ⟨m, hm⟩ := k0; exact DataW.trod_lt m _ _ _ hm
  have k1 := h1
  have lt1 : ∀ x ∈ p1, x.block < W.heap.size := by obtain ⟨m, hm⟩ := k1; exact DataW.trod_lt m _ _ _ hm
  have k2 := h2
  have lt2 : ∀ x ∈ p2, x.block < W.heap.size := by obtain ⟨m, hm⟩ := k2; exact DataW.trod_lt m _ _ _ hm
  obtain ⟨a0, a1, rfl, _, _⟩ := arg27 (hval 0 27 v0 rfl rfl) h0
  obtain ⟨b0, b1, rfl, _, _⟩ := arg27 (hval 1 27 v1 rfl rfl) h1
  obtain ⟨f0, f1, rfl, _, _⟩ := arg28 (hval 2 28 v2 rfl rfl) h2
  clear hA0 hval0
  obtain ⟨S0, S1, SE, s1, s2⟩ := add_pure a0 a1 b0 b1
  obtain ⟨T0, T1, TE, t1, t2⟩ := times_pure a0 a1 b0 b1
  obtain ⟨U0, U1, UE, u1, u2⟩ := part_pure a0 a1 f0 f1
  refine (computes_core a0 a1 b0 b1 f0 f1 S0 S1 SE T0 T1 TE U0 U1 UE s1 s2 t1 t2 u1 u2 W).mono fun e W' ⟨he, bel⟩ => ?_
  subst he
  exact ⟨_, rfl, _, _, _, [], _, [], hW', trodAll_mk1 (shut_bool Try.underlying4 _), (trodAll_cons_mk (Below.trod laidOut (by kernel_rfl) (of_decide_eq_true (by kernel_rfl)) k0 bel lt0) (trodAll_cons_mk (Below.trod laidOut (by kernel_rfl) (of_decide_eq_true (by kernel_rfl)) k1 bel lt1) (trodAll_cons_mk (Below.trod laidOut (by kernel_rfl) (of_decide_eq_true (by kernel_rfl)) k2 bel lt2) trodAll_mk0))), rfl, bel.frame _, fun h => by cases h⟩
theorem factsComputes : joinedFacts Try.prog 11 Try.f11 Rows.spansComputesSpec Rows.spansComputesRow = true := by
  have fk : (Rows.spansComputesRow.plainKeys == Try.prog.plainKeys) = true := factKeys
  have fl : (Rows.spansComputesRow.lifted == Try.prog.liftsFinal) = true := factLifted
  have fm : (Try.prog.make == some Rows.spansComputesRow.make) = true := factMake
  unfold joinedFacts
  repeat' (with_reducible refine Bool.and_eq_true_iff.2 ⟨?_, ?_⟩)
  all_goals first | (with_reducible exact fk) | (with_reducible exact factHeard) | (with_reducible exact factEnter) | (with_reducible exact fl) | (with_reducible exact fm) | kernel_rfl
theorem overComputes : Rows.spansComputesRow.holds Try.pinned (OpenSpec.ofChange Rows.spansComputesSpec) :=
  OpenClaim.holds_of_wide 11 Try.f11 rfl rfl rfl rfl rfl rfl rfl ⟨rfl, rfl, rfl, rfl, rfl⟩ rfl rfl rfl rfl rfl (by kernel_rfl) Try.func11 factsComputes
    (of_decide_eq_true (by kernel_rfl)) (by unfold Func.isWrapper; first | (rw [if_pos (by decide +kernel)]; kernel_rfl) | (rw [if_neg (by decide +kernel)]; exact ⟨rfl, rfl⟩))
    (fun os started H enc _ => liftedComputes os started H enc)
theorem computesProved : Rows.SpansComputesSaid := overComputes
#print axioms computesProved
end Go.Proofs.Yteodlmgmmpkpoaa.PS
end
