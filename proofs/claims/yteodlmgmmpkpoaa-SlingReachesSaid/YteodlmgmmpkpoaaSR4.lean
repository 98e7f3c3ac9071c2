-- Printed by a program of this session out of the translation (hybrid print) and out of hand proofs. Not trusted: Lean checks it.
import Derived.Below
import Derived.Deep.Draws
import Derived.Deep.AppendLies
import Derived.Maps.AppendAt
import Derived.OwnWalk
import Derived.Laws.BytesArg
import Derived.Laws.MakeOwn
import Derived.Laws.OwnMore
import Derived.Deep.OwnRows
import Derived.Tactics
import Derived.Lib.ConvBytes
import Derived.Laws.Slices
import Derived.WalkKit
import Derived.KernelRfl
import Derived.RowKit3
import Derived.Deep.LoopGhost
import Derived.Deep.QuietTactic
import Derived.BigQuiet
import Derived.WideLaws
import Derived.Deep.DeepCutAuto
import Derived.Deep.CutBlock
import Derived.Deep.RegionHeld3
import Derived.Laws.Rows
import Derived.Lib.AppendStr
import Derived.ArgAppend
import Derived.Laws.IdiomCopy
import Derived.RowKit
import Derived.OrdersHeld
import Derived.Laws.BitsLemmas
import Derived.Laws.StructEq
import Derived.Test.YteodlmgmmpkpoaaProg
import Derived.Laws.EntriesVeiled
import Derived.StillTailTactics
import Derived.RangeFuncNested
import Derived.RangeFuncBound
import Derived.RangeFuncCalls
import Derived.RangeFuncLeaves
import Derived.Shelf.Abstract
import Derived.OwnWalkIn
import Derived.TacticsInMore
import Derived.LoopNIn
import Derived.LoopIn
import Derived.RegionIn
import Derived.Deep.Strs
import Derived.Deep.Slices
import Derived.OpenShut
import Derived.ProofKit
import Derived.Carry
import Derived.Test.YteodlmgmmpkpoaaRows
import Derived.Lib.SmallJoins
import Derived.Test.YteodlmgmmpkpoaaSR3
section
namespace Go.Proofs.Yteodlmgmmpkpoaa.PS
open Go.RowKit Go.Proofs.YteodlmgmmpkpoaaW.PrintWords Go.Proofs.YteodlmgmmpkpoaaW.PrintLast Go.Proofs.YteodlmgmmpkpoaaW.PrintMore
set_option linter.unusedVariables false
set_option linter.unusedSimpArgs false
theorem parts_succ (n m D : Int) (N : Nat) (j : Nat) : (List.range (j + 1)).map (fun i => (partT n m D N i).a) = (List.range j).map (fun i => (partT n m D N i).a) ++ [(partT n m D N j).a] := by
  rw [List.range_succ, List.map_append]; rfl
theorem LdP.refl {g : Nat} {cs : Array Value} {w : World} (h : w.heap[g]? = some (.cells cs 177 (0, 0))) : LdP g cs w w := ⟨h, Kept.refl _ _, Below.refl _ _⟩
theorem LdP.set {g : Nat} {cs cs' : Array Value} {w : World} {i : Nat} {u : Value} (h : w.heap[g]? = some (.cells cs 177 (0, 0))) (e : cs.setIfInBounds i u = cs') : LdP g cs' w (w.setCell ⟨g, i, none⟩ u) :=
  ⟨blk_put h i u e, Kept.setCell (p := ⟨g, i, none⟩) (S := fun k => k = g) (Kept.refl w _) (.inl rfl) u, (Below.refl g w).setCell (Nat.le_refl _) _⟩
def set_parts.T18 : Bool × List (List Nat × List Nat) := (true, [([], []), ([], []), ([1], [1]), ([2], [2]), ([3], [3]), ([4], [4]), ([0, 5], [0, 5]), ([], []), ([7], [7]), ([8], [8]), ([9], [9]), ([6, 6, 0, 1, 2, 3, 4, 5, 6], [0, 6]), ([10, 11, 0, 1, 2, 3, 4, 5, 6, 7, 8, 9, 10, 11], [10])])
def set_parts.B18 : List Nat := [0, 0, 2, 6, 14, 30, 63, 0, 128, 384, 896, 127, 4095]
theorem set_parts.tab18 : rtab .any (opsOf Try.f147 18) = set_parts.T18 := by kernel_rfl
theorem set_parts.bits18 : waitsOk set_parts.T18.2 set_parts.B18 = true := by kernel_rfl
set_option maxRecDepth 100000 in
set_option maxHeartbeats 8000000 in
theorem parts_calls (g : Nat) (n m D : Int) (A1 : Option Addr) (k1 c1 : Nat) (g0 g1 : Int) (N : Nat) (hN : N ≤ 16) (w : World) (hg : w.heap[g]? = some (.cells (seC n m D A1 k1 c1 g0 g1) 216 (0, 0))) :
    Calls Try.prog 147 #[.pointer (some ⟨g, 0, none⟩), .int .i64 N] w fun e w' => ∃ v, e = .returned (.tuple #[v, .int .i64 (partT n m D N (N + 1)).d]) ∧ Kd.R (Kd.int .i64) 3 w' w.heap.size (fun _ => True) v (partsT n m D N) ∧ Below w.heap.size w w' := by
  replace hg : w.heap[g]? = some (.cells #[.int .i64 n, .int .i64 m, .int .i64 D, .slice A1 k1 c1, .int .i64 g0, .int .i64 g1] 216 (0, 0)) := hg
  have HG := Aside0.mk hg
  clear hg
  have wN : IntKind.i64.wrap ((N : Int) + 2) = (N : Int) + 2 := by rw [i64_w]; exact wr64 (by omega) (by omega)
  go_enter Try.func147, Try.ntmps147
  go_wp2
  go_loopw [4, 5, 12] (fun v4 v5 v12 wr => ∃ i : Nat, v12 = .int .i64 i ∧ v5 = .int .i64 (if i = 0 then 0 else (partT n m D N (i - 1)).d) ∧ Aside0 (i ≤ N + 2) ∧ Aside0 (Kd.R (Kd.int .i64) 3 wr w.heap.size (fun _ => True) v4 ((List.range i).map fun k => (partT n m D N k).a)) ∧ Aside0 (Below w.heap.size w wr)) (fun _ _ v12 _ => N + 2 - (intOf v12).toNat)
  case atStart => exact ⟨0, rfl, rfl, ⟨Nat.zero_le _⟩, ⟨Kd.R_nil _ _ _ _ _⟩, ⟨Below.refl _ _⟩⟩
  case round =>
    obtain ⟨i, rfl, rfl, HI, HO, HB⟩ := hrel
    obtain ⟨d5, hd5⟩ : ∃ d5, (if i = 0 then 0 else (partT n m D N (i - 1)).d) = d5 := ⟨_, rfl⟩
    rw [hd5]
    have HD5 := Aside0.mk hd5
    clear hd5
    by_cases hi : i < N + 2
    · have hdi : decide ((i : Int) < (N : Int) + 2) = true := decide_eq_true (by omega)
      have wi : IntKind.i64.wrap ((i : Int) + 1) = (i : Int) + 1 := by rw [i64_w]; exact wr64 (by omega) (by omega)
      have hgr := blk_below HG.out HB.out
      have x0 := (blk_cell hgr 0).trans rfl
      have x1 := (blk_cell hgr 1).trans rfl
      have x2 := (blk_cell hgr 2).trans rfl
      clear hgr
      have HIN := Aside0.mk hi
      rcases (show i = 0 ∨ i = 1 ∨ 2 ≤ i by omega) with hc | hc | hc
      · skip
        have e0 : ((i : Int) == 0) = true := by simp; omega
        have e1 : ((i : Int) == 1) = false := by simp; omega
        have HU : Aside0 (unL i = ⟨1, 0, 1⟩) := ⟨by unfold unL; rw [hc]; rfl⟩
        clear hc
        go_wp2_with ((with_reducible refine gate_dst (N := 20) rfl ?_); refine box_event ?hg (N := 20) ?hd (cs := #[.int .i64 n, .int .i64 m, .int .i64 D, .int .i64 0, .int .i64 0, .int .i64 1]) (t := 177) ?hr ?_; (case hd => rfl); (case hg => rfl); (case hr => first | (go_simp; done) | (go_simp; rfl)); intro gl hgl w1 hbox hb; have HL1 := Aside0.mk hbox; have GEl : Aside0 (w.heap.size ≤ gl) := ⟨by rw [hgl]; exact HB.out.size⟩; have HO1 : Aside0 (Kd.R (Kd.int .i64) 3 w1 w.heap.size (fun k => k ≠ gl) u4 ((List.range i).map fun k => (partT n m D N k).a)) := ⟨Kd.R_below (Kd.R_mono (Kd.R_bound HO.out) (fun k hk => by have := hk.2.2.1; omega)) hb⟩; have HB1 := Aside0.mk (HB.out.trans (hb.mono HB.out.size)); clear HO HB hbox hb hgl x0 x1 x2; have z3 := (blk_cell HL1.out 3).trans rfl; have z4 := (blk_cell HL1.out 4).trans rfl; have f3 := blk_frozen HL1.out 3; have f4 := blk_frozen HL1.out 4)
        have hl2 := LdP.set (i := 3) (u := .int .i64 1) HL1.out rfl
        obtain ⟨w2, hw2⟩ : ∃ w2, w1.setCell ⟨gl, 3, none⟩ (.int .i64 1) = w2 := ⟨_, rfl⟩
        rw [hw2] at hl2 ⊢
        clear hw2
        have HL2 : Aside0 (LdP gl (ldC n m D (stG n m D (unL i) (unG i) 0)) w2 w2) := ⟨LdP.refl (by have h := hl2.1; show w2.heap[gl]? = some (Obj.cells (ldC n m D (unL i)) 177 (0, 0)); rw [HU.out]; exact h)⟩
        have HO2 := Aside0.mk (Kd.R_kept HO1.out hl2.2.1 (fun k hk he => hk he))
        have HB2 := Aside0.mk (HB1.out.trans (hl2.2.2.mono GEl.out))
        clear z3 z4 f3 f4 hl2 HL1 HO1 HB1
        go_loopw [33] (fun v33 wt => ∃ t : Nat, v33 = .int .i64 t ∧ Aside0 (t ≤ N) ∧ Aside0 (LdP gl (ldC n m D (stG n m D (unL i) (unG i) t)) w2 wt)) (fun v33 _ => N - (intOf v33).toNat)
        case atStart => exact ⟨0, rfl, ⟨Nat.zero_le _⟩, HL2⟩
        case round =>
          obtain ⟨t, rfl, HT, HLt⟩ := hrel
          by_cases ht : t < N
          · have hdt : decide ((t : Int) < (N : Int)) = true := decide_eq_true (by omega)
            have wt2 : IntKind.i64.wrap ((t : Int) + 2) = (t : Int) + 2 := by rw [i64_w]; exact wr64 (by omega) (by omega)
            have wt1 : IntKind.i64.wrap ((t : Int) + 1) = (t : Int) + 1 := by rw [i64_w]; exact wr64 (by omega) (by omega)
            obtain ⟨s, hs⟩ : ∃ s, (stG n m D (unL i) (unG i) t) = s := ⟨_, rfl⟩
            have hlt := HLt.out
            rw [hs] at hlt
            have HLs1 := Aside0.mk hlt.1
            have HLs := Aside0.mk hlt
            have HSs := Aside0.mk hs
            clear hs hlt HLt
            by_cases hu : i = t + 2
            · have e2 : ((i : Int) == (t : Int) + 2) = true := by simp; omega
              have HG1 : Aside0 (unG i t = 1) := ⟨by unfold unG; rw [if_pos hu]⟩
              clear hu
              go_wp2_with (go_at_call 131; with_reducible refine (sling_tick.calls gl n m D s 1 _ HLs1.out).mono ?_; rintro e w3 ⟨rfl, hT⟩; have HT3 := Aside0.mk hT; clear hT)
              have hT1 := HLs.out.trans HT3.out
              rw [show tkL n m D s 1 = (stG n m D (unL i) (unG i) (t + 1)) by rw [← HSs.out, ← HG1.out]; rfl] at hT1
              go_roundw
              case measure => simp [intOf]; omega
              case rel => exact ⟨t + 1, by go_num, ⟨by omega⟩, ⟨hT1⟩⟩
            · have e2 : ((i : Int) == (t : Int) + 2) = false := by simp; omega
              have HG1 : Aside0 (unG i t = 0) := ⟨by unfold unG; rw [if_neg hu]⟩
              clear hu
              go_wp2_with (go_at_call 131; with_reducible refine (sling_tick.calls gl n m D s 0 _ HLs1.out).mono ?_; rintro e w3 ⟨rfl, hT⟩; have HT3 := Aside0.mk hT; clear hT)
              have hT1 := HLs.out.trans HT3.out
              rw [show tkL n m D s 0 = (stG n m D (unL i) (unG i) (t + 1)) by rw [← HSs.out, ← HG1.out]; rfl] at hT1
              go_roundw
              case measure => simp [intOf]; omega
              case rel => exact ⟨t + 1, by go_num, ⟨by omega⟩, ⟨hT1⟩⟩
          · obtain rfl : t = N := by have := HT.out; omega
            have hdt : decide ((t : Int) < (t : Int)) = false := decide_eq_false (by omega)
            have hlt := HLt.out
            obtain ⟨f, hf⟩ : ∃ f, partT n m D t i = f := ⟨_, rfl⟩
            rw [show (stG n m D (unL i) (unG i) t) = f from hf] at hlt
            have HF := Aside0.mk hf
            have HLf := Aside0.mk hlt.1
            have HO3 := Aside0.mk (Kd.R_kept HO2.out hlt.2.1 (fun k hk he => hk he))
            have HB3 := Aside0.mk (HB2.out.trans (hlt.2.2.mono GEl.out))
            clear hlt hf HO2 HB2 HLt HL2
            go_wp2
            refine start_ (n := 13) (S := fun w' => w'.cell? ⟨gl, 3, none⟩ = some (.int .i64 f.a) ∧ w'.cell? ⟨gl, 5, none⟩ = some (.int .i64 f.d)) (ds := []) (mk 13 0) (by kernel_rfl) rfl (by kernel_rfl) ⟨(blk_cell HLf.out 3).trans rfl, (blk_cell HLf.out 5).trans rfl⟩ (fun hHeld => ?_)
            refine with_tabW set_parts.tab18 set_parts.bits18 (fun HT_ HW_ => ?_)
            have hoz := Kd.R_drew HO3.out
            have hlz := blk_drew HLf.out
            have hbz := below_drew1 HB3.out
            generalize wr.drew = wz at hoz hlz hbz hHeld ⊢
            clear HO3 HLf HB3
            have HO3 := Aside0.mk hoz
            have HLf := Aside0.mk hlz
            have HB3 := Aside0.mk hbz
            clear hoz hlz hbz
            refine pu_ 0 44 (mk 13 1) HT_ ?_
            refine pu_ 1 45 (mk 13 3) HT_ ?_
            refine pu_ 2 46 (mk 13 7) HT_ ?_
            refine pu_ 3 47 (mk 13 15) HT_ ?_
            refine pu_ 7 51 (mk 13 143) HT_ ?_
            refine pu_ 8 52 (mk 13 399) HT_ ?_
            refine pu_ 9 53 (mk 13 911) HT_ ?_
            refine tk_ 4 48 (mk 13 927) HT_ HW_ hHeld ?_
            refine tk_ 10 54 (mk 13 1951) HT_ HW_ hHeld ?_
            refine one_ (i := 5) (N := some 49) (mk 13 1983) rfl rfl (one_of HT_.out (by kernel_rfl)) (by decide) (fun K hK => ?_)
            refine value_ (w1 := ?_) (v := ?_) (by rfl) rfl ?_ ?_
            rotate_left 2
            · go_simp
              constructor
              · rfl
              · rfl
            refine hK.out _ _ (keep2 (below_alloc (Below.refl _ _) _) hHeld) (fun hHeld => ?_)
            clear hK K
            refine nm_ ?_
            refine one_ (i := 6) (N := some 50) (mk 13 2047) rfl rfl (one_of HT_.out (by kernel_rfl)) (by decide) (fun K hK => ?_)
            refine Kd.R_append_step (Kd.int .i64) (w0 := w) w.heap.size (by rfl) (.tmp 44) (.tmp 49) 22 3 (.int .i64 0) 8 rfl Try.underlying22 info3 rfl (by decide) (by omega) u4 ((List.range i).map fun k => (partT n m D t k).a) f.a [.int .i64 f.a] (fun k_ => k_ ≠ gl) (fun _ => False) rfl rfl ?aP (fun _ hk => hk.elim) ?aF ?aO ?aB ?aS ?aL ?_
            (case aP => exact rfl)
            (case aB => exact HB3.out)
            (case aF => exact fun k_ hk => Kd.freshB HLf.out k_ hk)
            (case aO => exact HO3.out)
            (case aS => exact HB3.out.size)
            (case aL => have := HI.out; simp; omega)
            intro v4n w9 ho hb hg hat
            rw [← HF.out] at ho
            replace ho : Kd.R (Kd.int .i64) 3 w9 w.heap.size (fun k => k ≠ gl) v4n (((List.range i).map fun k => (partT n m D t k).a) ++ [(partT n m D t i).a]) := ho
            rw [← parts_succ] at ho
            have HO9 := Aside0.mk ho
            have HB9 := Aside0.mk hb
            have HL9 := blk_grown HLf.out hg (Kd.R_away HO3.out (fun _ hk => hk))
            clear HO3 HLf HB3 ho hb hg hat
            refine hK.out _ _ ⟨(blk_cell HL9 3).trans rfl, (blk_cell HL9 5).trans rfl⟩ (fun hHeld => ?_)
            clear hK K HL9
            refine nm_ ?_
            refine pu_ 11 4 (mk 13 4095) HT_ ?_
            refine pu_ 12 5 (mk 13 8191) HT_ ?_
            refine done_ (done_of HT_.out (by kernel_rfl)) ?_
            go_wp2
            go_roundw
            case measure => simp [intOf]; omega
            case rel => exact ⟨i + 1, by go_num, by rw [if_neg (by omega), Nat.add_sub_cancel, HF.out], ⟨by have := HIN.out; omega⟩, ⟨Kd.R_mono HO9.out (fun _ _ => trivial)⟩, HB9⟩
      · skip
        have e0 : ((i : Int) == 0) = false := by simp; omega
        have e1 : ((i : Int) == 1) = true := by simp; omega
        have HU : Aside0 (unL i = ⟨0, 1, 1⟩) := ⟨by unfold unL; rw [hc]; rfl⟩
        clear hc
        go_wp2_with ((with_reducible refine gate_dst (N := 20) rfl ?_); refine box_event ?hg (N := 20) ?hd (cs := #[.int .i64 n, .int .i64 m, .int .i64 D, .int .i64 0, .int .i64 0, .int .i64 1]) (t := 177) ?hr ?_; (case hd => rfl); (case hg => rfl); (case hr => first | (go_simp; done) | (go_simp; rfl)); intro gl hgl w1 hbox hb; have HL1 := Aside0.mk hbox; have GEl : Aside0 (w.heap.size ≤ gl) := ⟨by rw [hgl]; exact HB.out.size⟩; have HO1 : Aside0 (Kd.R (Kd.int .i64) 3 w1 w.heap.size (fun k => k ≠ gl) u4 ((List.range i).map fun k => (partT n m D N k).a)) := ⟨Kd.R_below (Kd.R_mono (Kd.R_bound HO.out) (fun k hk => by have := hk.2.2.1; omega)) hb⟩; have HB1 := Aside0.mk (HB.out.trans (hb.mono HB.out.size)); clear HO HB hbox hb hgl x0 x1 x2; have z3 := (blk_cell HL1.out 3).trans rfl; have z4 := (blk_cell HL1.out 4).trans rfl; have f3 := blk_frozen HL1.out 3; have f4 := blk_frozen HL1.out 4)
        have hl2 := LdP.set (i := 4) (u := .int .i64 1) HL1.out rfl
        obtain ⟨w2, hw2⟩ : ∃ w2, w1.setCell ⟨gl, 4, none⟩ (.int .i64 1) = w2 := ⟨_, rfl⟩
        rw [hw2] at hl2 ⊢
        clear hw2
        have HL2 : Aside0 (LdP gl (ldC n m D (stG n m D (unL i) (unG i) 0)) w2 w2) := ⟨LdP.refl (by have h := hl2.1; show w2.heap[gl]? = some (Obj.cells (ldC n m D (unL i)) 177 (0, 0)); rw [HU.out]; exact h)⟩
        have HO2 := Aside0.mk (Kd.R_kept HO1.out hl2.2.1 (fun k hk he => hk he))
        have HB2 := Aside0.mk (HB1.out.trans (hl2.2.2.mono GEl.out))
        clear z3 z4 f3 f4 hl2 HL1 HO1 HB1
        go_loopw [33] (fun v33 wt => ∃ t : Nat, v33 = .int .i64 t ∧ Aside0 (t ≤ N) ∧ Aside0 (LdP gl (ldC n m D (stG n m D (unL i) (unG i) t)) w2 wt)) (fun v33 _ => N - (intOf v33).toNat)
        case atStart => exact ⟨0, rfl, ⟨Nat.zero_le _⟩, HL2⟩
        case round =>
          obtain ⟨t, rfl, HT, HLt⟩ := hrel
          by_cases ht : t < N
          · have hdt : decide ((t : Int) < (N : Int)) = true := decide_eq_true (by omega)
            have wt2 : IntKind.i64.wrap ((t : Int) + 2) = (t : Int) + 2 := by rw [i64_w]; exact wr64 (by omega) (by omega)
            have wt1 : IntKind.i64.wrap ((t : Int) + 1) = (t : Int) + 1 := by rw [i64_w]; exact wr64 (by omega) (by omega)
            obtain ⟨s, hs⟩ : ∃ s, (stG n m D (unL i) (unG i) t) = s := ⟨_, rfl⟩
            have hlt := HLt.out
            rw [hs] at hlt
            have HLs1 := Aside0.mk hlt.1
            have HLs := Aside0.mk hlt
            have HSs := Aside0.mk hs
            clear hs hlt HLt
            by_cases hu : i = t + 2
            · have e2 : ((i : Int) == (t : Int) + 2) = true := by simp; omega
              have HG1 : Aside0 (unG i t = 1) := ⟨by unfold unG; rw [if_pos hu]⟩
              clear hu
              go_wp2_with (go_at_call 131; with_reducible refine (sling_tick.calls gl n m D s 1 _ HLs1.out).mono ?_; rintro e w3 ⟨rfl, hT⟩; have HT3 := Aside0.mk hT; clear hT)
              have hT1 := HLs.out.trans HT3.out
              rw [show tkL n m D s 1 = (stG n m D (unL i) (unG i) (t + 1)) by rw [← HSs.out, ← HG1.out]; rfl] at hT1
              go_roundw
              case measure => simp [intOf]; omega
              case rel => exact ⟨t + 1, by go_num, ⟨by omega⟩, ⟨hT1⟩⟩
            · have e2 : ((i : Int) == (t : Int) + 2) = false := by simp; omega
              have HG1 : Aside0 (unG i t = 0) := ⟨by unfold unG; rw [if_neg hu]⟩
              clear hu
              go_wp2_with (go_at_call 131; with_reducible refine (sling_tick.calls gl n m D s 0 _ HLs1.out).mono ?_; rintro e w3 ⟨rfl, hT⟩; have HT3 := Aside0.mk hT; clear hT)
              have hT1 := HLs.out.trans HT3.out
              rw [show tkL n m D s 0 = (stG n m D (unL i) (unG i) (t + 1)) by rw [← HSs.out, ← HG1.out]; rfl] at hT1
              go_roundw
              case measure => simp [intOf]; omega
              case rel => exact ⟨t + 1, by go_num, ⟨by omega⟩, ⟨hT1⟩⟩
          · obtain rfl : t = N := by have := HT.out; omega
            have hdt : decide ((t : Int) < (t : Int)) = false := decide_eq_false (by omega)
            have hlt := HLt.out
            obtain ⟨f, hf⟩ : ∃ f, partT n m D t i = f := ⟨_, rfl⟩
            rw [show (stG n m D (unL i) (unG i) t) = f from hf] at hlt
            have HF := Aside0.mk hf
            have HLf := Aside0.mk hlt.1
            have HO3 := Aside0.mk (Kd.R_kept HO2.out hlt.2.1 (fun k hk he => hk he))
            have HB3 := Aside0.mk (HB2.out.trans (hlt.2.2.mono GEl.out))
            clear hlt hf HO2 HB2 HLt HL2
            go_wp2
            refine start_ (n := 13) (S := fun w' => w'.cell? ⟨gl, 3, none⟩ = some (.int .i64 f.a) ∧ w'.cell? ⟨gl, 5, none⟩ = some (.int .i64 f.d)) (ds := []) (mk 13 0) (by kernel_rfl) rfl (by kernel_rfl) ⟨(blk_cell HLf.out 3).trans rfl, (blk_cell HLf.out 5).trans rfl⟩ (fun hHeld => ?_)
            refine with_tabW set_parts.tab18 set_parts.bits18 (fun HT_ HW_ => ?_)
            have hoz := Kd.R_drew HO3.out
            have hlz := blk_drew HLf.out
            have hbz := below_drew1 HB3.out
            generalize wr.drew = wz at hoz hlz hbz hHeld ⊢
            clear HO3 HLf HB3
            have HO3 := Aside0.mk hoz
            have HLf := Aside0.mk hlz
            have HB3 := Aside0.mk hbz
            clear hoz hlz hbz
            refine pu_ 0 44 (mk 13 1) HT_ ?_
            refine pu_ 1 45 (mk 13 3) HT_ ?_
            refine pu_ 2 46 (mk 13 7) HT_ ?_
            refine pu_ 3 47 (mk 13 15) HT_ ?_
            refine pu_ 7 51 (mk 13 143) HT_ ?_
            refine pu_ 8 52 (mk 13 399) HT_ ?_
            refine pu_ 9 53 (mk 13 911) HT_ ?_
            refine tk_ 4 48 (mk 13 927) HT_ HW_ hHeld ?_
            refine tk_ 10 54 (mk 13 1951) HT_ HW_ hHeld ?_
            refine one_ (i := 5) (N := some 49) (mk 13 1983) rfl rfl (one_of HT_.out (by kernel_rfl)) (by decide) (fun K hK => ?_)
            refine value_ (w1 := ?_) (v := ?_) (by rfl) rfl ?_ ?_
            rotate_left 2
            · go_simp
              constructor
              · rfl
              · rfl
            refine hK.out _ _ (keep2 (below_alloc (Below.refl _ _) _) hHeld) (fun hHeld => ?_)
            clear hK K
            refine nm_ ?_
            refine one_ (i := 6) (N := some 50) (mk 13 2047) rfl rfl (one_of HT_.out (by kernel_rfl)) (by decide) (fun K hK => ?_)
            refine Kd.R_append_step (Kd.int .i64) (w0 := w) w.heap.size (by rfl) (.tmp 44) (.tmp 49) 22 3 (.int .i64 0) 8 rfl Try.underlying22 info3 rfl (by decide) (by omega) u4 ((List.range i).map fun k => (partT n m D t k).a) f.a [.int .i64 f.a] (fun k_ => k_ ≠ gl) (fun _ => False) rfl rfl ?aP (fun _ hk => hk.elim) ?aF ?aO ?aB ?aS ?aL ?_
            (case aP => exact rfl)
            (case aB => exact HB3.out)
            (case aF => exact fun k_ hk => Kd.freshB HLf.out k_ hk)
            (case aO => exact HO3.out)
            (case aS => exact HB3.out.size)
            (case aL => have := HI.out; simp; omega)
            intro v4n w9 ho hb hg hat
            rw [← HF.out] at ho
            replace ho : Kd.R (Kd.int .i64) 3 w9 w.heap.size (fun k => k ≠ gl) v4n (((List.range i).map fun k => (partT n m D t k).a) ++ [(partT n m D t i).a]) := ho
            rw [← parts_succ] at ho
            have HO9 := Aside0.mk ho
            have HB9 := Aside0.mk hb
            have HL9 := blk_grown HLf.out hg (Kd.R_away HO3.out (fun _ hk => hk))
            clear HO3 HLf HB3 ho hb hg hat
            refine hK.out _ _ ⟨(blk_cell HL9 3).trans rfl, (blk_cell HL9 5).trans rfl⟩ (fun hHeld => ?_)
            clear hK K HL9
            refine nm_ ?_
            refine pu_ 11 4 (mk 13 4095) HT_ ?_
            refine pu_ 12 5 (mk 13 8191) HT_ ?_
            refine done_ (done_of HT_.out (by kernel_rfl)) ?_
            go_wp2
            go_roundw
            case measure => simp [intOf]; omega
            case rel => exact ⟨i + 1, by go_num, by rw [if_neg (by omega), Nat.add_sub_cancel, HF.out], ⟨by have := HIN.out; omega⟩, ⟨Kd.R_mono HO9.out (fun _ _ => trivial)⟩, HB9⟩
      · skip
        have e0 : ((i : Int) == 0) = false := by simp; omega
        have e1 : ((i : Int) == 1) = false := by simp; omega
        have HU : Aside0 (unL i = ⟨0, 0, 1⟩) := ⟨by unfold unL; rw [if_neg (by omega), if_neg (by omega)]⟩
        clear hc
        go_wp2_with ((with_reducible refine gate_dst (N := 20) rfl ?_); refine box_event ?hg (N := 20) ?hd (cs := #[.int .i64 n, .int .i64 m, .int .i64 D, .int .i64 0, .int .i64 0, .int .i64 1]) (t := 177) ?hr ?_; (case hd => rfl); (case hg => rfl); (case hr => first | (go_simp; done) | (go_simp; rfl)); intro gl hgl w1 hbox hb; have HL1 := Aside0.mk hbox; have GEl : Aside0 (w.heap.size ≤ gl) := ⟨by rw [hgl]; exact HB.out.size⟩; have HO1 : Aside0 (Kd.R (Kd.int .i64) 3 w1 w.heap.size (fun k => k ≠ gl) u4 ((List.range i).map fun k => (partT n m D N k).a)) := ⟨Kd.R_below (Kd.R_mono (Kd.R_bound HO.out) (fun k hk => by have := hk.2.2.1; omega)) hb⟩; have HB1 := Aside0.mk (HB.out.trans (hb.mono HB.out.size)); clear HO HB hbox hb hgl x0 x1 x2; have z3 := (blk_cell HL1.out 3).trans rfl; have z4 := (blk_cell HL1.out 4).trans rfl; have f3 := blk_frozen HL1.out 3; have f4 := blk_frozen HL1.out 4)
        have hl2 := LdP.refl HL1.out
        obtain ⟨w2, hw2⟩ : ∃ w2, w1 = w2 := ⟨_, rfl⟩
        have hw3 := hw2
        have HL2 : Aside0 (LdP gl (ldC n m D (stG n m D (unL i) (unG i) 0)) w1 w1) := ⟨LdP.refl (by have h := hl2.1; show w1.heap[gl]? = some (Obj.cells (ldC n m D (unL i)) 177 (0, 0)); rw [HU.out]; exact h)⟩
        have HO2 := Aside0.mk (Kd.R_kept HO1.out hl2.2.1 (fun k hk he => hk he))
        have HB2 := Aside0.mk (HB1.out.trans (hl2.2.2.mono GEl.out))
        clear z3 z4 f3 f4 hl2 HL1 HO1 HB1
        go_loopw [33] (fun v33 wt => ∃ t : Nat, v33 = .int .i64 t ∧ Aside0 (t ≤ N) ∧ Aside0 (LdP gl (ldC n m D (stG n m D (unL i) (unG i) t)) w1 wt)) (fun v33 _ => N - (intOf v33).toNat)
        case atStart => exact ⟨0, rfl, ⟨Nat.zero_le _⟩, HL2⟩
        case round =>
          obtain ⟨t, rfl, HT, HLt⟩ := hrel
          by_cases ht : t < N
          · have hdt : decide ((t : Int) < (N : Int)) = true := decide_eq_true (by omega)
            have wt2 : IntKind.i64.wrap ((t : Int) + 2) = (t : Int) + 2 := by rw [i64_w]; exact wr64 (by omega) (by omega)
            have wt1 : IntKind.i64.wrap ((t : Int) + 1) = (t : Int) + 1 := by rw [i64_w]; exact wr64 (by omega) (by omega)
            obtain ⟨s, hs⟩ : ∃ s, (stG n m D (unL i) (unG i) t) = s := ⟨_, rfl⟩
            have hlt := HLt.out
            rw [hs] at hlt
            have HLs1 := Aside0.mk hlt.1
            have HLs := Aside0.mk hlt
            have HSs := Aside0.mk hs
            clear hs hlt HLt
            by_cases hu : i = t + 2
            · have e2 : ((i : Int) == (t : Int) + 2) = true := by simp; omega
              have HG1 : Aside0 (unG i t = 1) := ⟨by unfold unG; rw [if_pos hu]⟩
              clear hu
              go_wp2_with (go_at_call 131; with_reducible refine (sling_tick.calls gl n m D s 1 _ HLs1.out).mono ?_; rintro e w3 ⟨rfl, hT⟩; have HT3 := Aside0.mk hT; clear hT)
              have hT1 := HLs.out.trans HT3.out
              rw [show tkL n m D s 1 = (stG n m D (unL i) (unG i) (t + 1)) by rw [← HSs.out, ← HG1.out]; rfl] at hT1
              go_roundw
              case measure => simp [intOf]; omega
              case rel => exact ⟨t + 1, by go_num, ⟨by omega⟩, ⟨hT1⟩⟩
            · have e2 : ((i : Int) == (t : Int) + 2) = false := by simp; omega
              have HG1 : Aside0 (unG i t = 0) := ⟨by unfold unG; rw [if_neg hu]⟩
              clear hu
              go_wp2_with (go_at_call 131; with_reducible refine (sling_tick.calls gl n m D s 0 _ HLs1.out).mono ?_; rintro e w3 ⟨rfl, hT⟩; have HT3 := Aside0.mk hT; clear hT)
              have hT1 := HLs.out.trans HT3.out
              rw [show tkL n m D s 0 = (stG n m D (unL i) (unG i) (t + 1)) by rw [← HSs.out, ← HG1.out]; rfl] at hT1
              go_roundw
              case measure => simp [intOf]; omega
              case rel => exact ⟨t + 1, by go_num, ⟨by omega⟩, ⟨hT1⟩⟩
          · obtain rfl : t = N := by have := HT.out; omega
            have hdt : decide ((t : Int) < (t : Int)) = false := decide_eq_false (by omega)
            have hlt := HLt.out
            obtain ⟨f, hf⟩ : ∃ f, partT n m D t i = f := ⟨_, rfl⟩
            rw [show (stG n m D (unL i) (unG i) t) = f from hf] at hlt
            have HF := Aside0.mk hf
            have HLf := Aside0.mk hlt.1
            have HO3 := Aside0.mk (Kd.R_kept HO2.out hlt.2.1 (fun k hk he => hk he))
            have HB3 := Aside0.mk (HB2.out.trans (hlt.2.2.mono GEl.out))
            clear hlt hf HO2 HB2 HLt HL2
            go_wp2
            refine start_ (n := 13) (S := fun w' => w'.cell? ⟨gl, 3, none⟩ = some (.int .i64 f.a) ∧ w'.cell? ⟨gl, 5, none⟩ = some (.int .i64 f.d)) (ds := []) (mk 13 0) (by kernel_rfl) rfl (by kernel_rfl) ⟨(blk_cell HLf.out 3).trans rfl, (blk_cell HLf.out 5).trans rfl⟩ (fun hHeld => ?_)
            refine with_tabW set_parts.tab18 set_parts.bits18 (fun HT_ HW_ => ?_)
            have hoz := Kd.R_drew HO3.out
            have hlz := blk_drew HLf.out
            have hbz := below_drew1 HB3.out
            generalize wr.drew = wz at hoz hlz hbz hHeld ⊢
            clear HO3 HLf HB3
            have HO3 := Aside0.mk hoz
            have HLf := Aside0.mk hlz
            have HB3 := Aside0.mk hbz
            clear hoz hlz hbz
            refine pu_ 0 44 (mk 13 1) HT_ ?_
            refine pu_ 1 45 (mk 13 3) HT_ ?_
            refine pu_ 2 46 (mk 13 7) HT_ ?_
            refine pu_ 3 47 (mk 13 15) HT_ ?_
            refine pu_ 7 51 (mk 13 143) HT_ ?_
            refine pu_ 8 52 (mk 13 399) HT_ ?_
            refine pu_ 9 53 (mk 13 911) HT_ ?_
            refine tk_ 4 48 (mk 13 927) HT_ HW_ hHeld ?_
            refine tk_ 10 54 (mk 13 1951) HT_ HW_ hHeld ?_
            refine one_ (i := 5) (N := some 49) (mk 13 1983) rfl rfl (one_of HT_.out (by kernel_rfl)) (by decide) (fun K hK => ?_)
            refine value_ (w1 := ?_) (v := ?_) (by rfl) rfl ?_ ?_
            rotate_left 2
            · go_simp
              constructor
              · rfl
              · rfl
            refine hK.out _ _ (keep2 (below_alloc (Below.refl _ _) _) hHeld) (fun hHeld => ?_)
            clear hK K
            refine nm_ ?_
            refine one_ (i := 6) (N := some 50) (mk 13 2047) rfl rfl (one_of HT_.out (by kernel_rfl)) (by decide) (fun K hK => ?_)
            refine Kd.R_append_step (Kd.int .i64) (w0 := w) w.heap.size (by rfl) (.tmp 44) (.tmp 49) 22 3 (.int .i64 0) 8 rfl Try.underlying22 info3 rfl (by decide) (by omega) u4 ((List.range i).map fun k => (partT n m D t k).a) f.a [.int .i64 f.a] (fun k_ => k_ ≠ gl) (fun _ => False) rfl rfl ?aP (fun _ hk => hk.elim) ?aF ?aO ?aB ?aS ?aL ?_
            (case aP => exact rfl)
            (case aB => exact HB3.out)
            (case aF => exact fun k_ hk => Kd.freshB HLf.out k_ hk)
            (case aO => exact HO3.out)
            (case aS => exact HB3.out.size)
            (case aL => have := HI.out; simp; omega)
            intro v4n w9 ho hb hg hat
            rw [← HF.out] at ho
            replace ho : Kd.R (Kd.int .i64) 3 w9 w.heap.size (fun k => k ≠ gl) v4n (((List.range i).map fun k => (partT n m D t k).a) ++ [(partT n m D t i).a]) := ho
            rw [← parts_succ] at ho
            have HO9 := Aside0.mk ho
            have HB9 := Aside0.mk hb
            have HL9 := blk_grown HLf.out hg (Kd.R_away HO3.out (fun _ hk => hk))
            clear HO3 HLf HB3 ho hb hg hat
            refine hK.out _ _ ⟨(blk_cell HL9 3).trans rfl, (blk_cell HL9 5).trans rfl⟩ (fun hHeld => ?_)
            clear hK K HL9
            refine nm_ ?_
            refine pu_ 11 4 (mk 13 4095) HT_ ?_
            refine pu_ 12 5 (mk 13 8191) HT_ ?_
            refine done_ (done_of HT_.out (by kernel_rfl)) ?_
            go_wp2
            go_roundw
            case measure => simp [intOf]; omega
            case rel => exact ⟨i + 1, by go_num, by rw [if_neg (by omega), Nat.add_sub_cancel, HF.out], ⟨by have := HIN.out; omega⟩, ⟨Kd.R_mono HO9.out (fun _ _ => trivial)⟩, HB9⟩
    · obtain rfl : i = N + 2 := by have := HI.out; omega
      have hdi : decide (((N + 2 : Nat) : Int) < (N : Int) + 2) = false := decide_eq_false (by omega)
      have hd : (partT n m D N (N + 1)).d = d5 := by rw [← HD5.out, if_neg (by omega)]; rfl
      have HDD := Aside0.mk hd
      clear hd
      go_wp2
      refine bodyPost_ret (results_list (rs := [.tmp 4, .tmp 5]) rfl (by simp) (.tmp (.tmp .nil))) rfl ?_
      exact ⟨_, by rw [HDD.out]; rfl, HO.out, HB.out⟩
end Go.Proofs.Yteodlmgmmpkpoaa.PS
end
section
namespace Go.Proofs.Yteodlmgmmpkpoaa.PS
open Go.RowKit Go.Proofs.YteodlmgmmpkpoaaW.PrintWords Go.Proofs.YteodlmgmmpkpoaaW.PrintLast Go.Proofs.YteodlmgmmpkpoaaW.PrintMore
set_option linter.unusedVariables false
set_option linter.unusedSimpArgs false
theorem partsT_len (n m D : Int) (N : Nat) : (partsT n m D N).length = N + 2 := by unfold partsT; simp
theorem partsT_rd (n m D : Int) (N j : Nat) (h : j < N + 2) : rd (partsT n m D N) j = (partT n m D N j).a := by
  unfold rd partsT
  rw [Int.toNat_natCast, List.getD_eq_getElem?_getD, List.getElem?_map, List.getElem?_range h]; rfl
set_option maxRecDepth 100000 in
set_option maxHeartbeats 4000000 in
theorem most_calls (g : Nat) (n m D : Int) (A1 : Option Addr) (c1 : Nat) (b : List S27) (g0 g1 : Int) (N : Nat) (hN : N ≤ 16) (high : Bool) (w : World) (hr : Kd.C k27 w A1 b.length b) (hb : b.length = 2) (hg : w.heap[g]? = some (.cells (seC n m D A1 b.length c1 g0 g1) 216 (0, 0))) :
    Calls Try.prog 144 #[.pointer (some ⟨g, 0, none⟩), .int .i64 N, .bool high] w fun e w' => e = .returned (.tuple #[.int .i64 (mostT n m D b ⟨g0, g1⟩ N high (N + 2)), .int .i64 (partT n m D N (N + 1)).d]) ∧ Below w.heap.size w w' := by
  have HG := Aside0.mk hg
  have HR := Aside0.mk hr
  have HLen := Aside0.mk hb
  clear hg hr hb
  go_enter Try.func144, Try.ntmps144
  go_wp2_with (go_at_call 147; with_reducible refine (parts_calls g n m D A1 b.length c1 g0 g1 N hN _ HG.out).mono ?_; rintro e w1 ⟨v, rfl, hR, hb1⟩; have HO := Aside0.mk hR; have HB := Aside0.mk hb1; clear hR hb1; obtain ⟨Ao, co, eo⟩ := Kd.R_slice HO.out; subst eo; rw [partsT_len] at HO ⊢)
  have HLn := Aside0.mk (partsT_len n m D N)
  go_loopw [6, 19] (fun v6 v19 wr => ∃ i : Nat, v19 = .int .i64 i ∧ v6 = .int .i64 (mostT n m D b ⟨g0, g1⟩ N high i) ∧ Aside0 (i ≤ N + 2) ∧ Aside0 (Below w1.heap.size w1 wr)) (fun _ v19 _ => N + 2 - (intOf v19).toNat)
  case atStart => exact ⟨0, rfl, rfl, ⟨Nat.zero_le _⟩, ⟨Below.refl _ _⟩⟩
  case round =>
    obtain ⟨i, rfl, rfl, HI, HBr⟩ := hrel
    have HM := Aside0.mk (show (mostT n m D b ⟨g0, g1⟩ N high (i + 1)) = wrap64 ((mostT n m D b ⟨g0, g1⟩ N high i) + wrap64 ((partT n m D N i).a * endT (partT n m D N i).a (spanT b ⟨g0, g1⟩ i).f0 (spanT b ⟨g0, g1⟩ i).f1 high)) from rfl)
    obtain ⟨S, hS⟩ : ∃ S, (mostT n m D b ⟨g0, g1⟩ N high i) = S := ⟨_, rfl⟩
    rw [hS]
    have HS := Aside0.mk hS
    clear hS
    by_cases hi : i < N + 2
    · have hdi : decide ((i : Int) < ((N + 2 : Nat) : Int)) = true := decide_eq_true (by omega)
      have hdn : decide (i < N + 2) = true := decide_eq_true hi
      have wi : IntKind.i64.wrap ((i : Int) + 1) = (i : Int) + 1 := by rw [i64_w]; exact wr64 (by omega) (by omega)
      have hor := Kd.R_below HO.out HBr.out
      have hC := (Kd.R_reads' hor).2.2
      obtain ⟨ad, e0, hx⟩ := Kd.at_int hC (i : Int) (by omega) (by rw [partsT_len]; omega)
      subst e0
      rw [Int.toNat_natCast, partsT_rd n m D N i hi] at hx
      obtain ⟨p, hp⟩ : ∃ p, (partT n m D N i).a = p := ⟨_, rfl⟩
      rw [hp] at hx HM
      obtain ⟨sp, hsp⟩ : ∃ sp, spanT b ⟨g0, g1⟩ i = sp := ⟨_, rfl⟩
      rw [hsp] at HM
      have HSp := Aside0.mk hsp
      obtain ⟨r, hr⟩ : ∃ r, endT p sp.f0 sp.f1 high = r := ⟨_, rfl⟩
      rw [hr] at HM
      have HRe := Aside0.mk hr
      have HIN := Aside0.mk hi
      have i0 : (0 : Int) ≤ (i : Int) := by omega
      have i1 : (i : Int) < ((N + 2 : Nat) : Int) := by omega
      have i2 : (i : Int) < (N : Int) + 2 := by omega
      have hBw : Below w.heap.size w wr := HB.out.trans (HBr.out.mono HB.out.size)
      have HG1 := Aside0.mk (blk_below HG.out hBw)
      have HR1 := Aside0.mk (Kd.C_below HR.out hBw)
      clear hp hsp hr hor hC hi hBw
      go_wp2_with (first | (go_at_call 149; with_reducible refine (span_calls g n m D A1 c1 b g0 g1 i _ HR1.out HLen.out HG1.out).mono ?_; rw [HSp.out]; rintro e w3 ⟨rfl, hb3⟩; have HB3 := Aside0.mk hb3; clear hb3) | (go_at_call 148; with_reducible refine (end_calls p sp.f0 sp.f1 high _).mono ?_; rw [HRe.out]; rintro e w4 ⟨rfl, hb4⟩; have HB4 := Aside0.mk (HB3.out.trans (hb4.mono HB3.out.size)); clear hb4))
      go_roundw
      case measure => have := HIN.out; simp [intOf]; omega
      case rel => exact ⟨i + 1, by go_num, by rw [HM.out, HS.out], ⟨by have := HIN.out; omega⟩, ⟨HBr.out.trans (HB4.out.mono HBr.out.size)⟩⟩
    · obtain rfl : i = N + 2 := by have := HI.out; omega
      have hdi : decide (((N + 2 : Nat) : Int) < ((N + 2 : Nat) : Int)) = false := decide_eq_false (by omega)
      have hdn : decide (N + 2 < N + 2) = false := decide_eq_false (by omega)
      go_wp2
      refine bodyPost_ret (results_list (rs := [.tmp 6, .tmp 7]) rfl (by simp) (.tmp (.tmp .nil))) rfl ?_
      exact ⟨by rw [HS.out]; rfl, HB.out.trans (HBr.out.mono HB.out.size)⟩
end Go.Proofs.Yteodlmgmmpkpoaa.PS
end
section
namespace Go.Proofs.Yteodlmgmmpkpoaa.PS
open Go.RowKit Go.Proofs.YteodlmgmmpkpoaaW.PrintWords Go.Proofs.YteodlmgmmpkpoaaW.PrintLast Go.Proofs.YteodlmgmmpkpoaaW.PrintMore
set_option linter.unusedVariables false
set_option linter.unusedSimpArgs false
theorem newSet_err (n m D : Int) (A1 : Option Addr) (c1 : Nat) (b : List S27) (g0 g1 N : Int) (w : World) (hr : Kd.C k27 w A1 b.length b) (hc : b.length ≤ c1) (he : setE n m D b g0 g1 N ≠ 0) :
    Calls Try.prog 142 #[.agg #[.int .i64 n, .int .i64 m, .int .i64 D], .slice A1 b.length c1, .agg #[.int .i64 g0, .int .i64 g1], .int .i64 N, .slice none 0 0] w fun e w' => e = .returned (.tuple #[.pointer none, .int .i64 (setE n m D b g0 g1 N)]) ∧ Below w.heap.size w w' := by
  unfold setE at he ⊢
  cases hs : slB n m D with
  | false => rw [if_neg (by simp)]; exact newSet_70 n m D A1 c1 b g0 g1 N w hs
  | true =>
    rw [hs, if_pos rfl] at he
    rw [if_pos rfl]
    cases hbg : (boxB b && okS g0 g1) with
    | false => rw [if_neg (by simp)]; exact newSet_10 n m D A1 c1 b g0 g1 N w hs hr hc hbg
    | true =>
      rw [hbg, if_pos rfl] at he
      rw [if_pos rfl]
      simp only [Bool.and_eq_true] at hbg
      cases ha : argB b g0 g1 N with
      | true => rw [ha] at he; exact absurd rfl he
      | false =>
        rw [if_neg (by simp)]
        by_cases hl : b.length = 2
        · unfold argB at ha
          rw [show (b.length == 2) = true by simpa using hl, Bool.true_and] at ha
          cases h1 : stB (b.getD 0 z27).f0 (b.getD 1 z27).f0 with
          | false => exact newSet_1_1 n m D A1 c1 b g0 g1 N w hs hr hc hbg.1 hbg.2 hl h1
          | true =>
            cases h2 : stB (b.getD 0 z27).f1 (b.getD 1 z27).f1 with
            | false => exact newSet_1_2 n m D A1 c1 b g0 g1 N w hs hr hc hbg.1 hbg.2 hl ⟨h1, h2⟩
            | true =>
              cases h3 : guB g0 with
              | false => exact newSet_1_3 n m D A1 c1 b g0 g1 N w hs hr hc hbg.1 hbg.2 hl ⟨h1, h2, h3⟩
              | true =>
                cases h4 : guB g1 with
                | false => exact newSet_1_4 n m D A1 c1 b g0 g1 N w hs hr hc hbg.1 hbg.2 hl ⟨h1, h2, h3, h4⟩
                | true =>
                  cases h5 : nB N with
                  | false => exact newSet_1_5 n m D A1 c1 b g0 g1 N w hs hr hc hbg.1 hbg.2 hl ⟨h1, h2, h3, h4, h5⟩
                  | true => rw [h1, h2, h3, h4, h5] at ha; simp at ha
        · exact newSet_1len n m D A1 c1 b g0 g1 N w hs hr hc hbg.1 hbg.2 hl
theorem newSet_ok (n m D : Int) (A1 : Option Addr) (c1 : Nat) (b : List S27) (g0 g1 N : Int) (w : World) (hr : Kd.C k27 w A1 b.length b) (hc : b.length ≤ c1) (he : setE n m D b g0 g1 N = 0) :
    Calls Try.prog 142 #[.agg #[.int .i64 n, .int .i64 m, .int .i64 D], .slice A1 b.length c1, .agg #[.int .i64 g0, .int .i64 g1], .int .i64 N, .slice none 0 0] w fun e w' => ∃ g, e = .returned (.tuple #[.pointer (some ⟨g, 0, none⟩), .int .i64 0]) ∧ w'.heap[g]? = some (.cells (seC n m D A1 b.length c1 g0 g1) 216 (0, 0)) ∧ w.heap.size ≤ g ∧ Below w.heap.size w w' := by
  unfold setE at he
  cases hs : slB n m D with
  | false => rw [hs] at he; simp at he
  | true =>
    rw [hs, if_pos rfl] at he
    cases hbg : (boxB b && okS g0 g1) with
    | false => rw [hbg] at he; simp at he
    | true =>
      rw [hbg, if_pos rfl] at he
      simp only [Bool.and_eq_true] at hbg
      cases ha : argB b g0 g1 N with
      | false => rw [ha] at he; simp at he
      | true =>
        unfold argB at ha
        simp only [Bool.and_eq_true, beq_iff_eq] at ha
        exact newSet_0 n m D A1 c1 b g0 g1 N w hs hr hc hbg.1 hbg.2 ha.1.1.1 ⟨ha.1.1.2.1, ha.1.1.2.2, ha.1.2.1, ha.1.2.2, ha.2⟩
theorem setE_zero7 {n m D : Int} {b : List S27} {g0 g1 N : Int} (h : setE n m D b g0 g1 N = 0) : (1 ≤ D ∧ D ≤ 4) ∧ b.length = 2 ∧ 0 ≤ N ∧ N ≤ 16 := by
  unfold setE at h
  cases h1 : slB n m D with
  | false => rw [h1] at h; simp at h
  | true =>
    rw [h1, if_pos rfl] at h
    cases h2 : (boxB b && okS g0 g1) with
    | false => rw [h2] at h; simp at h
    | true =>
      rw [h2, if_pos rfl] at h
      cases h3 : argB b g0 g1 N with
      | false => rw [h3] at h; simp at h
      | true =>
        unfold slB at h1
        unfold argB nB at h3
        simp only [Bool.and_eq_true, decide_eq_true_eq, beq_iff_eq] at h1 h3
        exact ⟨h1.1, h3.1.1.1, h3.2⟩
def sling_Reach.T3 : Bool × List (List Nat × List Nat) := (true, [([], []), ([], []), ([], []), ([0, 0], [0]), ([1, 3, 0, 1, 3], [1]), ([2, 4, 0, 1, 2, 3, 4], [2])])
def sling_Reach.B3 : List Nat := [0, 0, 0, 1, 11, 31]
theorem sling_Reach.tab3 : rtab .any (opsOf Try.f81 3) = sling_Reach.T3 := by kernel_rfl
theorem sling_Reach.bits3 : waitsOk sling_Reach.T3.2 sling_Reach.B3 = true := by kernel_rfl
set_option maxRecDepth 100000 in
set_option maxHeartbeats 4000000 in
theorem sling_Reach.calls (k : Nat) (n : Int) (m : Int) (D : Int) (A1 : Option Addr) (c1 : Nat) (b : List (S27)) (g0 : Int) (g1 : Int) (N : Int) (r1 : Int) (r2 : Int) (r3 : Int) (r4 : Int) (r5 : Int) (w : World) (hr1 : Kd.C k27 w A1 b.length b) (hc : b.length ≤ c1) (h : sling_Reach.f k n m D b g0 g1 N = some (r1, r2, r3, r4, r5)) :
    Calls Try.prog 81 #[.agg #[.int .i64 n, .int .i64 m, .int .i64 D], .slice A1 b.length c1, .agg #[.int .i64 g0, .int .i64 g1], .int .i64 N] w fun e w' => e = .returned (.tuple #[.agg #[.int .i64 r1, .int .i64 r2], .agg #[.int .i64 r3, .int .i64 r4], .int .i64 r5]) ∧ Below w.heap.size w w' := by
  have HR := Aside0.mk hr1
  clear hr1
  have h' := Option.some.inj h
  clear h
  by_cases he : setE n m D b g0 g1 N = 0
  · rw [if_pos he] at h'
    simp only [Prod.mk.injEq] at h'
    obtain ⟨e1, e2, e3, e4, rfl⟩ := h'
    obtain ⟨hD, hlen, h0, h16⟩ := setE_zero7 he
    obtain ⟨T, rfl⟩ : ∃ T : Nat, N = T := ⟨N.toNat, by omega⟩
    have HE := Aside0.mk he
    have HLen := Aside0.mk hlen
    have HN : Aside0 (T ≤ 16) := ⟨by omega⟩
    obtain ⟨m0, hm0⟩ : ∃ m0, mostT n m D b ⟨g0, g1⟩ T false (T + 2) = m0 := ⟨_, rfl⟩
    obtain ⟨m1, hm1⟩ : ∃ m1, mostT n m D b ⟨g0, g1⟩ T true (T + 2) = m1 := ⟨_, rfl⟩
    obtain ⟨dn, hdn⟩ : ∃ dn, (partT n m D T (T + 1)).d = dn := ⟨_, rfl⟩
    obtain ⟨q0, hq0⟩ : ∃ q0, lowT m0 dn = q0 := ⟨_, rfl⟩
    obtain ⟨q1, hq1⟩ : ∃ q1, lowT m1 dn = q1 := ⟨_, rfl⟩
    have HDp : Aside0 (0 < dn) := ⟨by rw [← hdn]; unfold partT; rw [st_den n m D (unL (T + 1)) rfl]; have := pw_range D hD.1 hD.2 T (by omega); omega⟩
    unfold ends7 at e1 e2 e3 e4
    rw [Int.toNat_natCast, hdn] at e1 e2 e3 e4
    rw [hm0, hq0] at e1 e2
    rw [hm1, hq1] at e3 e4
    subst e1 e2 e3 e4
    have HM0 := Aside0.mk hm0
    have HM1 := Aside0.mk hm1
    have HDn := Aside0.mk hdn
    have HL0 := Aside0.mk hq0
    have HL1 := Aside0.mk hq1
    clear he hlen h0 h16 hD hm0 hm1 hdn hq0 hq1
    have HB := Aside0.mk (Below.refl w.heap.size w)
    go_enter Try.func81, Try.ntmps81
    go_wp2_with (first | ((with_reducible refine gate_dst (N := 4) rfl ?_); refine box_event ?hg (N := 4) ?hd (cs := #[.int .i64 n, .int .i64 m, .int .i64 D]) (t := 105) ?hr ?_; (case hd => rfl); (case hg => rfl); (case hr => first | (go_simp; done) | (go_simp; rfl)); intro gs hg w1 hbox hb; have n0_ := Aside0.mk (below_step HB.out hb); have x0_ := Aside0.mk (hbox); have x1_ := Aside0.mk ((by rw [hg]; exact HB.out.size : w.heap.size ≤ gs)); clear HB; have HB := n0_; clear n0_; have BKgs := x0_; clear x0_; have GEgs := x1_; clear x1_; clear hb hbox hg; skip) | ((with_reducible refine gate_dst (N := 6) rfl ?_); refine box_event ?hg (N := 6) ?hd (cs := #[.int .i64 g0, .int .i64 g1]) (t := 27) ?hr ?_; (case hd => rfl); (case hg => rfl); (case hr => first | (go_simp; done) | (go_simp; rfl)); intro gg hg w2 hbox hb; have n0_ := Aside0.mk (below_step HB.out hb); have m0_ := Aside0.mk (blk_below BKgs.out hb); have x0_ := Aside0.mk (hbox); have x1_ := Aside0.mk ((by rw [hg]; exact HB.out.size : w.heap.size ≤ gg)); clear HB; have HB := n0_; clear n0_; clear BKgs; have BKgs := m0_; clear m0_; have BKgg := x0_; clear x0_; have GEgg := x1_; clear x1_; clear hb hbox hg; skip) | ((with_reducible refine gate_dst (N := 8) rfl ?_); refine box_event ?hg (N := 8) ?hd (cs := #[.int .i64 0, .int .i64 0]) (t := 28) ?hr ?_; (case hd => rfl); (case hg => rfl); (case hr => first | (go_simp; done) | (go_simp; rfl)); intro p8 hg w3 hbox hb; have n0_ := Aside0.mk (below_step HB.out hb); have m0_ := Aside0.mk (blk_below BKgs.out hb); have m1_ := Aside0.mk (blk_below BKgg.out hb); have x0_ := Aside0.mk (hbox); have x1_ := Aside0.mk ((by rw [hg]; exact HB.out.size : w.heap.size ≤ p8)); clear HB; have HB := n0_; clear n0_; clear BKgs; have BKgs := m0_; clear m0_; clear BKgg; have BKgg := m1_; clear m1_; have BKp8 := x0_; clear x0_; have GEp8 := x1_; clear x1_; clear hb hbox hg; skip) | ((with_reducible refine gate_dst (N := 9) rfl ?_); refine box_event ?hg (N := 9) ?hd (cs := #[.int .i64 0, .int .i64 0]) (t := 28) ?hr ?_; (case hd => rfl); (case hg => rfl); (case hr => first | (go_simp; done) | (go_simp; rfl)); intro p9 hg w4 hbox hb; have BKp8o := BKp8.out; have n0_ := Aside0.mk (below_step HB.out hb); have m0_ := Aside0.mk (blk_below BKgs.out hb); have m1_ := Aside0.mk (blk_below BKgg.out hb); have m2_ := Aside0.mk (blk_below BKp8.out hb); have x0_ := Aside0.mk (hbox); have x1_ := Aside0.mk ((by rw [hg]; exact HB.out.size : w.heap.size ≤ p9)); clear HB; have HB := n0_; clear n0_; clear BKgs; have BKgs := m0_; clear m0_; clear BKgg; have BKgg := m1_; clear m1_; clear BKp8; have BKp8 := m2_; clear m2_; have BKp9 := x0_; clear x0_; have GEp9 := x1_; clear x1_; have HNE : p8 ≠ p9 := (by have := blk_lt BKp8o; omega); clear BKp8o; clear hb hbox hg; have NE := Aside0.mk (HNE : p8 ≠ p9); clear HNE; have zgs0 : w4.cell? ⟨gs, 0, none⟩ = some (.int .i64 n) := (blk_cell BKgs.out 0).trans rfl; have zgs1 : w4.cell? ⟨gs, 1, none⟩ = some (.int .i64 m) := (blk_cell BKgs.out 1).trans rfl; have zgs2 : w4.cell? ⟨gs, 2, none⟩ = some (.int .i64 D) := (blk_cell BKgs.out 2).trans rfl; have zgg0 : w4.cell? ⟨gg, 0, none⟩ = some (.int .i64 g0) := (blk_cell BKgg.out 0).trans rfl; have zgg1 : w4.cell? ⟨gg, 1, none⟩ = some (.int .i64 g1) := (blk_cell BKgg.out 1).trans rfl; skip) | (go_at_call 142; refine (newSet_ok n m D A1 c1 b g0 g1 T _ (Kd.C_below HR.out HB.out) hc HE.out).mono ?_; rintro e w5 ⟨g, rfl, hk, hge, hb⟩; have n0_ := Aside0.mk (below_step HB.out hb); have m0_ := Aside0.mk (blk_below BKgs.out hb); have m1_ := Aside0.mk (blk_below BKgg.out hb); have m2_ := Aside0.mk (blk_below BKp8.out hb); have m3_ := Aside0.mk (blk_below BKp9.out hb); clear HB; have HB := n0_; clear n0_; clear BKgs; have BKgs := m0_; clear m0_; clear BKgg; have BKgg := m1_; clear m1_; clear BKp8; have BKp8 := m2_; clear m2_; clear BKp9; have BKp9 := m3_; clear m3_; clear hb; have BKg := Aside0.mk hk; clear hk hge; clear zgs0; clear zgs1; clear zgs2; clear zgg0; clear zgg1; skip) | (go_at_call 144; with_reducible refine (most_calls g n m D A1 c1 b g0 g1 T HN.out false _ (Kd.C_below HR.out HB.out) HLen.out BKg.out).mono ?_; rw [HM0.out, HDn.out]; rintro e w6 ⟨rfl, hb⟩; have n0_ := Aside0.mk (below_step HB.out hb); have m0_ := Aside0.mk (blk_below BKgs.out hb); have m1_ := Aside0.mk (blk_below BKgg.out hb); have m2_ := Aside0.mk (blk_below BKp8.out hb); have m3_ := Aside0.mk (blk_below BKp9.out hb); have m4_ := Aside0.mk (blk_below BKg.out hb); clear HB; have HB := n0_; clear n0_; clear BKgs; have BKgs := m0_; clear m0_; clear BKgg; have BKgg := m1_; clear m1_; clear BKp8; have BKp8 := m2_; clear m2_; clear BKp9; have BKp9 := m3_; clear m3_; clear BKg; have BKg := m4_; clear m4_; clear hb; skip) | (go_at_call 144; with_reducible refine (most_calls g n m D A1 c1 b g0 g1 T HN.out true _ (Kd.C_below HR.out HB.out) HLen.out BKg.out).mono ?_; rw [HM1.out, HDn.out]; rintro e w8 ⟨rfl, hb⟩; have n0_ := Aside0.mk (below_step HB.out hb); have m0_ := Aside0.mk (blk_below BKgs.out hb); have m1_ := Aside0.mk (blk_below BKgg.out hb); have m2_ := Aside0.mk (blk_below BKp8.out hb); have m3_ := Aside0.mk (blk_below BKp9.out hb); have m4_ := Aside0.mk (blk_below BKg.out hb); clear HB; have HB := n0_; clear n0_; clear BKgs; have BKgs := m0_; clear m0_; clear BKgg; have BKgg := m1_; clear m1_; clear BKp8; have BKp8 := m2_; clear m2_; clear BKp9; have BKp9 := m3_; clear m3_; clear BKg; have BKg := m4_; clear m4_; clear hb; skip) | (go_at_call 143; with_reducible refine (low_calls m0 dn HDp.out _).mono ?_; rw [HL0.out]; rintro e w7 ⟨rfl, hb⟩; have n0_ := Aside0.mk (below_step HB.out hb); have m0_ := Aside0.mk (blk_below BKgs.out hb); have m1_ := Aside0.mk (blk_below BKgg.out hb); have m2_ := Aside0.mk (blk_below BKp8.out hb); have m3_ := Aside0.mk (blk_below BKp9.out hb); have m4_ := Aside0.mk (blk_below BKg.out hb); clear HB; have HB := n0_; clear n0_; clear BKgs; have BKgs := m0_; clear m0_; clear BKgg; have BKgg := m1_; clear m1_; clear BKp8; have BKp8 := m2_; clear m2_; clear BKp9; have BKp9 := m3_; clear m3_; clear BKg; have BKg := m4_; clear m4_; clear hb; skip) | (go_at_call 143; with_reducible refine (low_calls m1 dn HDp.out _).mono ?_; rw [HL1.out]; rintro e w9 ⟨rfl, hb⟩; have n0_ := Aside0.mk (below_step HB.out hb); have m0_ := Aside0.mk (blk_below BKgs.out hb); have m1_ := Aside0.mk (blk_below BKgg.out hb); have m2_ := Aside0.mk (blk_below BKp8.out hb); have m3_ := Aside0.mk (blk_below BKp9.out hb); have m4_ := Aside0.mk (blk_below BKg.out hb); clear HB; have HB := n0_; clear n0_; clear BKgs; have BKgs := m0_; clear m0_; clear BKgg; have BKgg := m1_; clear m1_; clear BKp8; have BKp8 := m2_; clear m2_; clear BKp9; have BKp9 := m3_; clear m3_; clear BKg; have BKg := m4_; clear m4_; clear hb; have n0 := NE.out; have n1 : p9 ≠ p8 := Ne.symm NE.out; have z80 := (blk_cell BKp8.out 0).trans rfl; have z81 := (blk_cell BKp8.out 1).trans rfl; have z90 := (blk_cell BKp9.out 0).trans rfl; have z91 := (blk_cell BKp9.out 1).trans rfl; have f80 := blk_frozen BKp8.out 0; have f81 := blk_frozen BKp8.out 1; have f90 := blk_frozen BKp9.out 0; have f91 := blk_frozen BKp9.out 1; skip))
    have k8 := blk_far (p := ⟨p9, 1, none⟩) (blk_far (p := ⟨p9, 0, none⟩) (blk_put (cs := #[.int .i64 q0.f0, .int .i64 0]) (blk_put (cs := #[.int .i64 0, .int .i64 0]) BKp8.out 0 (.int .i64 q0.f0) rfl) 1 (.int .i64 q0.f1) rfl) NE.out (.int .i64 q1.f0)) NE.out (.int .i64 q1.f1)
    have k9 := blk_put (cs := #[.int .i64 q1.f0, .int .i64 0]) (blk_put (cs := #[.int .i64 0, .int .i64 0]) (blk_far (p := ⟨p8, 1, none⟩) (blk_far (p := ⟨p8, 0, none⟩) BKp9.out (fun h => NE.out h.symm) (.int .i64 q0.f0)) (fun h => NE.out h.symm) (.int .i64 q0.f1)) 0 (.int .i64 q1.f0) rfl) 1 (.int .i64 q1.f1) rfl
    refine bodyPost_ret (results_list (rs := [.cell 8 28, .cell 9 28, .tmp 10]) rfl (by simp) (.cell p8 28 #[.int .i64 q0.f0, .int .i64 q0.f1] (0, 0) _ rfl k8 Try.underlying28 rfl (by kernel_rfl) (.cell p9 28 #[.int .i64 q1.f0, .int .i64 q1.f1] (0, 0) _ rfl k9 Try.underlying28 rfl (by kernel_rfl) (.tmp .nil)))) rfl ?_
    exact ⟨rfl, below_set (below_set (below_set (below_set HB.out GEp8.out) GEp8.out) GEp9.out) GEp9.out⟩
  · rw [if_neg he] at h'
    simp only [Prod.mk.injEq] at h'
    obtain ⟨rfl, rfl, rfl, rfl, rfl⟩ := h'
    have HE := Aside0.mk he
    have hne0 : (setE n m D b g0 g1 N != 0) = true := by simpa using he
    obtain ⟨E, hE⟩ : ∃ E, setE n m D b g0 g1 N = E := ⟨_, rfl⟩
    have HEq := Aside0.mk hE
    rw [hE] at hne0 ⊢
    clear he hE
    have HB := Aside0.mk (Below.refl w.heap.size w)
    go_enter Try.func81, Try.ntmps81
    go_wp2_with (first | ((with_reducible refine gate_dst (N := 4) rfl ?_); refine box_event ?hg (N := 4) ?hd (cs := #[.int .i64 n, .int .i64 m, .int .i64 D]) (t := 105) ?hr ?_; (case hd => rfl); (case hg => rfl); (case hr => first | (go_simp; done) | (go_simp; rfl)); intro gs hg w1 hbox hb; have n0_ := Aside0.mk (below_step HB.out hb); have x0_ := Aside0.mk (hbox); have x1_ := Aside0.mk ((by rw [hg]; exact HB.out.size : w.heap.size ≤ gs)); clear HB; have HB := n0_; clear n0_; have BKgs := x0_; clear x0_; have GEgs := x1_; clear x1_; clear hb hbox hg; skip) | ((with_reducible refine gate_dst (N := 6) rfl ?_); refine box_event ?hg (N := 6) ?hd (cs := #[.int .i64 g0, .int .i64 g1]) (t := 27) ?hr ?_; (case hd => rfl); (case hg => rfl); (case hr => first | (go_simp; done) | (go_simp; rfl)); intro gg hg w2 hbox hb; have n0_ := Aside0.mk (below_step HB.out hb); have m0_ := Aside0.mk (blk_below BKgs.out hb); have x0_ := Aside0.mk (hbox); have x1_ := Aside0.mk ((by rw [hg]; exact HB.out.size : w.heap.size ≤ gg)); clear HB; have HB := n0_; clear n0_; clear BKgs; have BKgs := m0_; clear m0_; have BKgg := x0_; clear x0_; have GEgg := x1_; clear x1_; clear hb hbox hg; skip) | ((with_reducible refine gate_dst (N := 8) rfl ?_); refine box_event ?hg (N := 8) ?hd (cs := #[.int .i64 0, .int .i64 0]) (t := 28) ?hr ?_; (case hd => rfl); (case hg => rfl); (case hr => first | (go_simp; done) | (go_simp; rfl)); intro p8 hg w3 hbox hb; have n0_ := Aside0.mk (below_step HB.out hb); have m0_ := Aside0.mk (blk_below BKgs.out hb); have m1_ := Aside0.mk (blk_below BKgg.out hb); have x0_ := Aside0.mk (hbox); have x1_ := Aside0.mk ((by rw [hg]; exact HB.out.size : w.heap.size ≤ p8)); clear HB; have HB := n0_; clear n0_; clear BKgs; have BKgs := m0_; clear m0_; clear BKgg; have BKgg := m1_; clear m1_; have BKp8 := x0_; clear x0_; have GEp8 := x1_; clear x1_; clear hb hbox hg; skip) | ((with_reducible refine gate_dst (N := 9) rfl ?_); refine box_event ?hg (N := 9) ?hd (cs := #[.int .i64 0, .int .i64 0]) (t := 28) ?hr ?_; (case hd => rfl); (case hg => rfl); (case hr => first | (go_simp; done) | (go_simp; rfl)); intro p9 hg w4 hbox hb; have BKp8o := BKp8.out; have n0_ := Aside0.mk (below_step HB.out hb); have m0_ := Aside0.mk (blk_below BKgs.out hb); have m1_ := Aside0.mk (blk_below BKgg.out hb); have m2_ := Aside0.mk (blk_below BKp8.out hb); have x0_ := Aside0.mk (hbox); have x1_ := Aside0.mk ((by rw [hg]; exact HB.out.size : w.heap.size ≤ p9)); clear HB; have HB := n0_; clear n0_; clear BKgs; have BKgs := m0_; clear m0_; clear BKgg; have BKgg := m1_; clear m1_; clear BKp8; have BKp8 := m2_; clear m2_; have BKp9 := x0_; clear x0_; have GEp9 := x1_; clear x1_; have HNE : p8 ≠ p9 := (by have := blk_lt BKp8o; omega); clear BKp8o; clear hb hbox hg; have NE := Aside0.mk (HNE : p8 ≠ p9); clear HNE; have zgs0 : w4.cell? ⟨gs, 0, none⟩ = some (.int .i64 n) := (blk_cell BKgs.out 0).trans rfl; have zgs1 : w4.cell? ⟨gs, 1, none⟩ = some (.int .i64 m) := (blk_cell BKgs.out 1).trans rfl; have zgs2 : w4.cell? ⟨gs, 2, none⟩ = some (.int .i64 D) := (blk_cell BKgs.out 2).trans rfl; have zgg0 : w4.cell? ⟨gg, 0, none⟩ = some (.int .i64 g0) := (blk_cell BKgg.out 0).trans rfl; have zgg1 : w4.cell? ⟨gg, 1, none⟩ = some (.int .i64 g1) := (blk_cell BKgg.out 1).trans rfl; skip) | (go_at_call 142; refine (newSet_err n m D A1 c1 b g0 g1 N _ (Kd.C_below HR.out HB.out) hc HE.out).mono ?_; rw [HEq.out]; rintro e w5 ⟨rfl, hb⟩; have n0_ := Aside0.mk (below_step HB.out hb); have m0_ := Aside0.mk (blk_below BKgs.out hb); have m1_ := Aside0.mk (blk_below BKgg.out hb); have m2_ := Aside0.mk (blk_below BKp8.out hb); have m3_ := Aside0.mk (blk_below BKp9.out hb); clear HB; have HB := n0_; clear n0_; clear BKgs; have BKgs := m0_; clear m0_; clear BKgg; have BKgg := m1_; clear m1_; clear BKp8; have BKp8 := m2_; clear m2_; clear BKp9; have BKp9 := m3_; clear m3_; clear hb; clear zgs0; clear zgs1; clear zgs2; clear zgg0; clear zgg1; have zp80 : w5.cell? ⟨p8, 0, none⟩ = some (.int .i64 0) := (blk_cell BKp8.out 0).trans rfl; have zp81 : w5.cell? ⟨p8, 1, none⟩ = some (.int .i64 0) := (blk_cell BKp8.out 1).trans rfl; have zp90 : w5.cell? ⟨p9, 0, none⟩ = some (.int .i64 0) := (blk_cell BKp9.out 0).trans rfl; have zp91 : w5.cell? ⟨p9, 1, none⟩ = some (.int .i64 0) := (blk_cell BKp9.out 1).trans rfl; skip))
    refine start_ (n := 6) (S := fun w' => w'.cell? ⟨p8, 0, none⟩ = some (.int .i64 0) ∧ w'.cell? ⟨p8, 1, none⟩ = some (.int .i64 0) ∧ w'.cell? ⟨p9, 0, none⟩ = some (.int .i64 0) ∧ w'.cell? ⟨p9, 1, none⟩ = some (.int .i64 0)) (ds := []) (mk 6 0) (by kernel_rfl) rfl (by kernel_rfl) ⟨zp80, zp81, zp90, zp91⟩ (fun hHeld => ?_)
    refine with_tabW sling_Reach.tab3 sling_Reach.bits3 (fun HT_ HW_ => ?_)
    have hb0 := below_drew1 HB.out
    have k8 := blk_drew BKp8.out
    have k9 := blk_drew BKp9.out
    generalize w5.drew = wz at hb0 k8 k9 hHeld ⊢
    clear HB BKp8 BKp9 zp80 zp81 zp90 zp91
    have HB := Aside0.mk hb0
    have BKp8 := Aside0.mk k8
    have BKp9 := Aside0.mk k9
    clear hb0 k8 k9
    refine tk_ 0 22 (mk 6 1) HT_ HW_ hHeld ?_
    refine tk_ 1 23 (mk 6 3) HT_ HW_ hHeld ?_
    refine pu_ 2 24 (mk 6 7) HT_ ?_
    have z0 := (blk_cell BKp8.out 0).trans rfl
    have z1 := (blk_cell BKp8.out 1).trans rfl
    have f0 := blk_frozen BKp8.out 0
    have f1 := blk_frozen BKp8.out 1
    refine one_ (i := 3) (N := none) (mk 6 15) rfl rfl (one_of HT_.out (by kernel_rfl)) (by decide) (fun K hK => ?_)
    refine skip_ (w1 := ?_) (by rfl) rfl ?_ ?_
    rotate_left
    · go_simp
      rfl
    have n0_ := Aside0.mk (blk_put (cs := #[.int .i64 0, .int .i64 0]) (blk_put (cs := #[.int .i64 0, .int .i64 0]) BKp8.out 0 (.int .i64 0) rfl) 1 (.int .i64 0) rfl)
    have n1_ := Aside0.mk (blk_far (p := ⟨p8, 1, none⟩) (blk_far (p := ⟨p8, 0, none⟩) BKp9.out (fun h => NE.out h.symm) (.int .i64 0)) (fun h => NE.out h.symm) (.int .i64 0))
    have n2_ := Aside0.mk (below_set (j := 1) (v := .int .i64 0) (below_set (j := 0) (v := .int .i64 0) HB.out GEp8.out) GEp8.out)
    obtain ⟨wa, hwn⟩ : ∃ wy, (wz.setCell ⟨p8, 0, none⟩ (.int .i64 0)).setCell ⟨p8, 1, none⟩ (.int .i64 0) = wy := ⟨_, rfl⟩
    rw [hwn] at n0_ n1_ n2_ ⊢
    clear z0 z1 f0 f1 hwn HB BKp8 BKp9
    have BKp8 := n0_
    have BKp9 := n1_
    have HB := n2_
    clear n0_ n1_ n2_
    refine hK.out _ _ ⟨(blk_cell BKp8.out 0).trans rfl, (blk_cell BKp8.out 1).trans rfl, (blk_cell BKp9.out 0).trans rfl, (blk_cell BKp9.out 1).trans rfl⟩ (fun hHeld => ?_)
    clear hK K
    have z0 := (blk_cell BKp9.out 0).trans rfl
    have z1 := (blk_cell BKp9.out 1).trans rfl
    have f0 := blk_frozen BKp9.out 0
    have f1 := blk_frozen BKp9.out 1
    refine one_ (i := 4) (N := none) (mk 6 31) rfl rfl (one_of HT_.out (by kernel_rfl)) (by decide) (fun K hK => ?_)
    refine skip_ (w1 := ?_) (by rfl) rfl ?_ ?_
    rotate_left
    · go_simp
      rfl
    have n0_ := Aside0.mk (blk_put (cs := #[.int .i64 0, .int .i64 0]) (blk_put (cs := #[.int .i64 0, .int .i64 0]) BKp9.out 0 (.int .i64 0) rfl) 1 (.int .i64 0) rfl)
    have n1_ := Aside0.mk (blk_far (p := ⟨p9, 1, none⟩) (blk_far (p := ⟨p9, 0, none⟩) BKp8.out NE.out (.int .i64 0)) NE.out (.int .i64 0))
    have n2_ := Aside0.mk (below_set (j := 1) (v := .int .i64 0) (below_set (j := 0) (v := .int .i64 0) HB.out GEp9.out) GEp9.out)
    obtain ⟨wb, hwn⟩ : ∃ wy, (wa.setCell ⟨p9, 0, none⟩ (.int .i64 0)).setCell ⟨p9, 1, none⟩ (.int .i64 0) = wy := ⟨_, rfl⟩
    rw [hwn] at n0_ n1_ n2_ ⊢
    clear z0 z1 f0 f1 hwn HB BKp8 BKp9
    have BKp9 := n0_
    have BKp8 := n1_
    have HB := n2_
    clear n0_ n1_ n2_
    refine hK.out _ _ ⟨(blk_cell BKp8.out 0).trans rfl, (blk_cell BKp8.out 1).trans rfl, (blk_cell BKp9.out 0).trans rfl, (blk_cell BKp9.out 1).trans rfl⟩ (fun hHeld => ?_)
    clear hK K
    refine pu_ 5 10 (mk 6 63) HT_ ?_
    refine done_ (done_of HT_.out (by kernel_rfl)) ?_
    go_wp2
    refine bodyPost_ret (results_list (rs := [.cell 8 28, .cell 9 28, .tmp 10]) rfl (by simp) (.cell p8 28 #[.int .i64 0, .int .i64 0] (0, 0) _ rfl BKp8.out Try.underlying28 rfl (by kernel_rfl) (.cell p9 28 #[.int .i64 0, .int .i64 0] (0, 0) _ rfl BKp9.out Try.underlying28 rfl (by kernel_rfl) (.tmp .nil)))) rfl ?_
    exact ⟨rfl, HB.out⟩
end Go.Proofs.Yteodlmgmmpkpoaa.PS
end
section
namespace Go.Proofs.Yteodlmgmmpkpoaa.PS
open Go.RowKit Go.Proofs.YteodlmgmmpkpoaaW.PrintWords Go.Proofs.YteodlmgmmpkpoaaW.PrintLast Go.Proofs.YteodlmgmmpkpoaaW.PrintMore
set_option linter.unusedVariables false
set_option linter.unusedSimpArgs false
def eW (n m D : Int) (b : List S27) (g : S27) (N : Nat) (high : Bool) (i : Nat) : Int := endT (partT n m D N i).a (spanT b g i).f0 (spanT b g i).f1 high
def rowP (n m D : Int) (b : List S27) (g : S27) (N : Nat) (high : Bool) (i : Nat) : List Int := ((List.range i).map (eW n m D b g N high)).drop 2
theorem rowP_succ (n m D : Int) (b : List S27) (g : S27) (N : Nat) (high : Bool) (i : Nat) (h : 2 ≤ i) : rowP n m D b g N high (i + 1) = rowP n m D b g N high i ++ [eW n m D b g N high i] := by
  unfold rowP
  rw [List.range_succ, List.map_append, List.drop_append_of_le_length (by simp; omega)]; rfl
theorem rowP_len (n m D : Int) (b : List S27) (g : S27) (N : Nat) (high : Bool) (i : Nat) : (rowP n m D b g N high i).length = i - 2 := by unfold rowP; simp
theorem rowT_at (n m D : Int) (b : List S27) (g : S27) (N : Nat) (high : Bool) (i : Nat) (h : i < N + 2) : (rowT n m D b g N high).getD i 0 = eW n m D b g N high i := by
  unfold rowT
  rw [List.getD_eq_getElem?_getD, List.getElem?_map, List.getElem?_range h]; rfl
theorem span_at (g : Nat) (n m D : Int) (A1 : Option Addr) (c1 : Nat) (b : List S27) (g0 g1 : Int) (j : Int) (i : Nat) (hj : j = (i : Int)) (w : World) (hr : Kd.C k27 w A1 b.length b) (hb : b.length = 2) (hg : w.heap[g]? = some (.cells (seC n m D A1 b.length c1 g0 g1) 216 (0, 0))) :
    Calls Try.prog 149 #[.pointer (some ⟨g, 0, none⟩), .int .i64 j] w fun e w' => e = .returned (.agg #[.int .i64 (spanT b ⟨g0, g1⟩ i).f0, .int .i64 (spanT b ⟨g0, g1⟩ i).f1]) ∧ Below w.heap.size w w' := by
  subst hj
  exact span_calls g n m D A1 c1 b g0 g1 i w hr hb hg
def sW (x : Int) (b : Bool) : Int := if b then x else 0
set_option maxRecDepth 100000 in
set_option maxHeartbeats 8000000 in
theorem sling_Witness.calls (n : Int) (m : Int) (D : Int) (A1 : Option Addr) (c1 : Nat) (b : List (S27)) (g0 : Int) (g1 : Int) (N : Int) (high : Bool) (r1 : Int) (r2 : Int) (r3 : List Int) (r4 : Int) (w : World) (hr1 : Kd.C k27 w A1 b.length b) (hc : b.length ≤ c1) (h : sling_Witness.f n m D b g0 g1 N high = some (r1, r2, r3, r4)) :
    Calls Try.prog 83 #[.agg #[.int .i64 n, .int .i64 m, .int .i64 D], .slice A1 b.length c1, .agg #[.int .i64 g0, .int .i64 g1], .int .i64 N, .bool high] w fun e w' => ∃ v2_ : Value, e = .returned (.tuple #[.agg #[.int .i64 r1, .int .i64 r2], v2_, .int .i64 r4]) ∧ Kd.R (Kd.int .i64) 3 w' w.heap.size (fun _ => True) v2_ r3 ∧ Below w.heap.size w w' := by
  have HR := Aside0.mk hr1
  clear hr1
  have h' := Option.some.inj h
  clear h
  by_cases he : setE n m D b g0 g1 N = 0
  · rw [if_pos he] at h'
    simp only [Prod.mk.injEq] at h'
    obtain ⟨e1, e2, e3, rfl⟩ := h'
    obtain ⟨hD, hlen, h0, h16⟩ := setE_zero7 he
    obtain ⟨T, rfl⟩ : ∃ T : Nat, N = T := ⟨N.toNat, by omega⟩
    rw [Int.toNat_natCast] at e1 e2 e3
    rw [rowT_at _ _ _ _ _ _ _ _ (by omega)] at e1 e2
    have HE := Aside0.mk he
    have HLen := Aside0.mk hlen
    have HN : Aside0 (T ≤ 16) := ⟨by omega⟩
    have H1 := Aside0.mk e1
    have H2 := Aside0.mk e2
    have H3 : Aside0 ((rowP n m D b ⟨g0, g1⟩ T high (T + 2)) = r3) := ⟨e3⟩
    clear he hlen h0 h16 hD e1 e2 e3
    have HB := Aside0.mk (Below.refl w.heap.size w)
    go_enter Try.func83, Try.ntmps83
    go_wp2_with (first | ((with_reducible refine gate_dst (N := 5) rfl ?_); refine box_event ?hg (N := 5) ?hd (cs := #[.int .i64 n, .int .i64 m, .int .i64 D]) (t := 105) ?hr ?_; (case hd => rfl); (case hg => rfl); (case hr => first | (go_simp; done) | (go_simp; rfl)); intro gs hg w1 hbox hb; have n0_ := Aside0.mk (below_step HB.out hb); have x0_ := Aside0.mk (hbox); have x1_ := Aside0.mk ((by rw [hg]; exact HB.out.size : w.heap.size ≤ gs)); clear HB; have HB := n0_; clear n0_; have BKgs := x0_; clear x0_; have GEgs := x1_; clear x1_; clear hb hbox hg; skip) | ((with_reducible refine gate_dst (N := 7) rfl ?_); refine box_event ?hg (N := 7) ?hd (cs := #[.int .i64 g0, .int .i64 g1]) (t := 27) ?hr ?_; (case hd => rfl); (case hg => rfl); (case hr => first | (go_simp; done) | (go_simp; rfl)); intro gg hg w2 hbox hb; have n0_ := Aside0.mk (below_step HB.out hb); have m0_ := Aside0.mk (blk_below BKgs.out hb); have x0_ := Aside0.mk (hbox); have x1_ := Aside0.mk ((by rw [hg]; exact HB.out.size : w.heap.size ≤ gg)); clear HB; have HB := n0_; clear n0_; clear BKgs; have BKgs := m0_; clear m0_; have BKgg := x0_; clear x0_; have GEgg := x1_; clear x1_; clear hb hbox hg; skip) | ((with_reducible refine gate_dst (N := 10) rfl ?_); refine box_event ?hg (N := 10) ?hd (cs := #[.int .i64 0, .int .i64 0]) (t := 28) ?hr ?_; (case hd => rfl); (case hg => rfl); (case hr => first | (go_simp; done) | (go_simp; rfl)); intro p10 hg w3 hbox hb; have n0_ := Aside0.mk (below_step HB.out hb); have m0_ := Aside0.mk (blk_below BKgs.out hb); have m1_ := Aside0.mk (blk_below BKgg.out hb); have x0_ := Aside0.mk (hbox); have x1_ := Aside0.mk ((by rw [hg]; exact HB.out.size : w.heap.size ≤ p10)); clear HB; have HB := n0_; clear n0_; clear BKgs; have BKgs := m0_; clear m0_; clear BKgg; have BKgg := m1_; clear m1_; have BKp10 := x0_; clear x0_; have GEp10 := x1_; clear x1_; clear hb hbox hg; have zgs0 : w3.cell? ⟨gs, 0, none⟩ = some (.int .i64 n) := (blk_cell BKgs.out 0).trans rfl; have zgs1 : w3.cell? ⟨gs, 1, none⟩ = some (.int .i64 m) := (blk_cell BKgs.out 1).trans rfl; have zgs2 : w3.cell? ⟨gs, 2, none⟩ = some (.int .i64 D) := (blk_cell BKgs.out 2).trans rfl; have zgg0 : w3.cell? ⟨gg, 0, none⟩ = some (.int .i64 g0) := (blk_cell BKgg.out 0).trans rfl; have zgg1 : w3.cell? ⟨gg, 1, none⟩ = some (.int .i64 g1) := (blk_cell BKgg.out 1).trans rfl; skip) | (go_at_call 142; refine (newSet_ok n m D A1 c1 b g0 g1 T _ (Kd.C_below HR.out HB.out) hc HE.out).mono ?_; rintro e w5 ⟨g, rfl, hk, hge, hb⟩; have n0_ := Aside0.mk (below_step HB.out hb); have m0_ := Aside0.mk (blk_below BKgs.out hb); have m1_ := Aside0.mk (blk_below BKgg.out hb); have m2_ := Aside0.mk (blk_below BKp10.out hb); clear HB; have HB := n0_; clear n0_; clear BKgs; have BKgs := m0_; clear m0_; clear BKgg; have BKgg := m1_; clear m1_; clear BKp10; have BKp10 := m2_; clear m2_; clear hb; have BKg := Aside0.mk hk; clear hk hge; clear zgs0; clear zgs1; clear zgs2; clear zgg0; clear zgg1; skip) | (go_at_call 147; with_reducible refine (parts_calls g n m D A1 b.length c1 g0 g1 T HN.out _ BKg.out).mono ?_; rintro e wq ⟨v, rfl, hRv, hb⟩; have HV := Aside0.mk (Kd.R_lower hRv HB.out.size); clear hRv; have n0_ := Aside0.mk (below_step HB.out hb); have m0_ := Aside0.mk (blk_below BKgs.out hb); have m1_ := Aside0.mk (blk_below BKgg.out hb); have m2_ := Aside0.mk (blk_below BKp10.out hb); have m3_ := Aside0.mk (blk_below BKg.out hb); clear HB; have HB := n0_; clear n0_; clear BKgs; have BKgs := m0_; clear m0_; clear BKgg; have BKgg := m1_; clear m1_; clear BKp10; have BKp10 := m2_; clear m2_; clear BKg; have BKg := m3_; clear m3_; clear hb; obtain ⟨Ao, co, eo⟩ := Kd.R_slice HV.out; subst eo; rw [partsT_len] at HV ⊢; skip))
    have hp10 := blk_lt BKp10.out
    have HP := Aside0.mk hp10
    have HS0 := HB.out.size
    have HS := Aside0.mk HS0
    have HGne : Aside0 (¬ g = p10) := ⟨blk_ne BKg.out BKp10.out (by decide)⟩
    have HV2 : Aside0 (Kd.R (Kd.int .i64) 3 wq w.heap.size (fun k => k ≠ p10) (.slice Ao (T + 2) co) (partsT n m D T)) := ⟨Kd.R_mono (Kd.R_types HV.out BKp10.out (by decide)) (fun _ hk => hk.2)⟩
    clear hp10 HS0 BKgs BKgg
    go_loopw [11, 39] (fun v11 v39 wr => ∃ i : Nat, v39 = .int .i64 i ∧ Aside0 (i ≤ T + 2) ∧ Aside0 (Kd.R (Kd.int .i64) 3 wr w.heap.size (fun k => wq.heap.size ≤ k) v11 (rowP n m D b ⟨g0, g1⟩ T high i)) ∧ Aside0 (Kept wq wr (fun k => k = p10)) ∧ Aside0 (wr.heap[p10]? = some (.cells #[.int .i64 (sW (eW n m D b ⟨g0, g1⟩ T high 0) (decide (0 < i))), .int .i64 (sW (eW n m D b ⟨g0, g1⟩ T high 1) (decide (1 < i)))] 28 (0, 0))) ∧ Aside0 (Below w.heap.size w wr)) (fun _ v39 _ => T + 2 - (intOf v39).toNat)
    case atStart => exact ⟨0, rfl, ⟨Nat.zero_le _⟩, ⟨Kd.R_nil _ _ _ _ _⟩, ⟨Kept.refl _ _⟩, ⟨BKp10.out⟩, HB⟩
    case round =>
      obtain ⟨i, rfl, HI, HO, HK, BKi, HBr⟩ := hrel
      clear HB BKp10
      by_cases hi : i < T + 2
      · have hdn : decide (i < T + 2) = true := decide_eq_true hi
        have hdi : decide ((i : Int) < ((T + 2 : Nat) : Int)) = true := decide_eq_true (by omega)
        have wi : IntKind.i64.wrap ((i : Int) + 1) = (i : Int) + 1 := by rw [i64_w]; exact wr64 (by omega) (by have := HN.out; omega)
        have hor := Kd.R_kept HV2.out HK.out (fun k hk he => hk he)
        have hC := (Kd.R_reads' hor).2.2
        obtain ⟨ad, e0, hx⟩ := Kd.at_int hC (i : Int) (by omega) (by rw [partsT_len]; omega)
        subst e0
        rw [Int.toNat_natCast, partsT_rd n m D T i hi] at hx
        have HEw := Aside0.mk (show (eW n m D b ⟨g0, g1⟩ T high i) = endT (partT n m D T i).a (spanT b ⟨g0, g1⟩ i).f0 (spanT b ⟨g0, g1⟩ i).f1 high from rfl)
        obtain ⟨p, hp⟩ : ∃ p, (partT n m D T i).a = p := ⟨_, rfl⟩
        rw [hp] at hx HEw
        obtain ⟨sp, hsp⟩ : ∃ sp, spanT b ⟨g0, g1⟩ i = sp := ⟨_, rfl⟩
        rw [hsp] at HEw
        have HSp := Aside0.mk hsp
        obtain ⟨r, hr⟩ : ∃ r, endT p sp.f0 sp.f1 high = r := ⟨_, rfl⟩
        rw [hr] at HEw
        have HRe := Aside0.mk hr
        have HIN := Aside0.mk hi
        have i0 : (0 : Int) ≤ (i : Int) := by omega
        have i1 : (i : Int) < ((T + 2 : Nat) : Int) := by omega
        have i2 : (i : Int) < (T : Int) + 2 := by omega
        have HG1 := Aside0.mk (blk_kept BKg.out HK.out HGne.out)
        have HR1 := Aside0.mk (Kd.C_below HR.out HBr.out)
        clear hp hsp hr hor hC hi
        rcases (show i = 0 ∨ i = 1 ∨ 2 ≤ i by omega) with hc | hc | hc
        · subst hc
          have hc0 : ((0 : Nat) : Int) = 0 := rfl
          rw [hc0]
          rw [show ad.add 0 = ad from rfl] at hx
          clear i0 i1 i2 hdi hdn
          have hdi : decide ((0 : Int) < ((T + 2 : Nat) : Int)) = true := decide_eq_true (by omega)
          have i1 : (0 : Int) < ((T + 2 : Nat) : Int) := by omega
          have i2 : (0 : Int) < (T : Int) + 2 := by omega
          have i3 : 0 < T + 2 := by omega
          have hdi2 : decide ((0 : Int) < (T : Int) + 2) = true := decide_eq_true (by omega)
          have hdi3 : decide (0 < T + 2) = true := decide_eq_true (by omega)
          go_wp2_with (first | (go_at_call 149; with_reducible refine (span_at g n m D A1 c1 b g0 g1 0 0 rfl _ HR1.out HLen.out HG1.out).mono ?_; rw [HSp.out]; rintro e w3 ⟨rfl, hb3⟩; have HB3 := Aside0.mk hb3; clear hb3) | (go_at_call 148; with_reducible refine (end_calls p sp.f0 sp.f1 high _).mono ?_; rw [HRe.out]; rintro e w4 ⟨rfl, hb4⟩; have hb := HB3.out.trans (hb4.mono HB3.out.size); have HO4 := Aside0.mk (Kd.R_below HO.out hb); have HK4 := Aside0.mk (HK.out.below hb); have BK4 := Aside0.mk (blk_below BKi.out hb); have HB4 := Aside0.mk (HBr.out.trans (hb.mono HBr.out.size)); clear hb4 hb HB3 HO HK BKi HBr hx HG1 HR1; have z0 := (blk_cell BK4.out 0).trans rfl; have z1 := (blk_cell BK4.out 1).trans rfl; have f0 := blk_frozen BK4.out 0; have f1 := blk_frozen BK4.out 1; ))
          have n0_ := Aside0.mk (blk_put (cs := #[.int .i64 (sW (eW n m D b ⟨g0, g1⟩ T high 0) (decide (0 < 0))), .int .i64 (sW (eW n m D b ⟨g0, g1⟩ T high 1) (decide (1 < 0)))]) BK4.out 0 (.int .i64 r) rfl)
          have n1_ := Aside0.mk (HK4.out.setCell (p := ⟨p10, 0, none⟩) (.inl rfl) (.int .i64 r))
          have n2_ := Aside0.mk (Kd.R_kept HO4.out (Kept.setCell (p := ⟨p10, 0, none⟩) (S := fun k => k = p10) (Kept.refl w4 _) (.inl rfl) (.int .i64 r)) (fun k hk he => by have h1 := HP.out; have h2 : wq.heap.size ≤ k := hk; have h3 : k = p10 := he; omega))
          have n3_ := Aside0.mk (HB4.out.setCell (p := ⟨p10, 0, none⟩) GEp10.out (.int .i64 r))
          go_roundw
          case measure => first | (simp [intOf]; done) | (simp [intOf]; omega)
          case rel => exact ⟨1, rfl, ⟨by omega⟩, n2_, n1_, ⟨by rw [HEw.out]; exact n0_.out⟩, n3_⟩
        · subst hc
          have hc1 : ((1 : Nat) : Int) = 1 := rfl
          rw [hc1]
          rw [show ad.add 1 = ⟨ad.block, ad.off + 1, none⟩ from rfl] at hx
          clear i0 i1 i2 hdi hdn
          have hdi : decide ((1 : Int) < ((T + 2 : Nat) : Int)) = true := decide_eq_true (by omega)
          have i1 : (1 : Int) < ((T + 2 : Nat) : Int) := by omega
          have i2 : (1 : Int) < (T : Int) + 2 := by omega
          have i3 : 1 < T + 2 := by omega
          have hdi2 : decide ((1 : Int) < (T : Int) + 2) = true := decide_eq_true (by omega)
          have hdi3 : decide (1 < T + 2) = true := decide_eq_true (by omega)
          go_wp2_with (first | (go_at_call 149; with_reducible refine (span_at g n m D A1 c1 b g0 g1 1 1 rfl _ HR1.out HLen.out HG1.out).mono ?_; rw [HSp.out]; rintro e w3 ⟨rfl, hb3⟩; have HB3 := Aside0.mk hb3; clear hb3) | (go_at_call 148; with_reducible refine (end_calls p sp.f0 sp.f1 high _).mono ?_; rw [HRe.out]; rintro e w4 ⟨rfl, hb4⟩; have hb := HB3.out.trans (hb4.mono HB3.out.size); have HO4 := Aside0.mk (Kd.R_below HO.out hb); have HK4 := Aside0.mk (HK.out.below hb); have BK4 := Aside0.mk (blk_below BKi.out hb); have HB4 := Aside0.mk (HBr.out.trans (hb.mono HBr.out.size)); clear hb4 hb HB3 HO HK BKi HBr hx HG1 HR1; have z0 := (blk_cell BK4.out 0).trans rfl; have z1 := (blk_cell BK4.out 1).trans rfl; have f0 := blk_frozen BK4.out 0; have f1 := blk_frozen BK4.out 1; ))
          have n0_ := Aside0.mk (blk_put (cs := #[.int .i64 (sW (eW n m D b ⟨g0, g1⟩ T high 0) (decide (0 < 1))), .int .i64 (sW (eW n m D b ⟨g0, g1⟩ T high 1) (decide (1 < 1)))]) BK4.out 1 (.int .i64 r) rfl)
          have n1_ := Aside0.mk (HK4.out.setCell (p := ⟨p10, 1, none⟩) (.inl rfl) (.int .i64 r))
          have n2_ := Aside0.mk (Kd.R_kept HO4.out (Kept.setCell (p := ⟨p10, 1, none⟩) (S := fun k => k = p10) (Kept.refl w4 _) (.inl rfl) (.int .i64 r)) (fun k hk he => by have h1 := HP.out; have h2 : wq.heap.size ≤ k := hk; have h3 : k = p10 := he; omega))
          have n3_ := Aside0.mk (HB4.out.setCell (p := ⟨p10, 1, none⟩) GEp10.out (.int .i64 r))
          go_roundw
          case measure => first | (simp [intOf]; done) | (simp [intOf]; omega)
          case rel => exact ⟨2, rfl, ⟨by omega⟩, n2_, n1_, ⟨by rw [HEw.out]; exact n0_.out⟩, n3_⟩
        · have HI2 := Aside0.mk hc
          have e2 : decide ((i : Int) < 2) = false := decide_eq_false (by omega)
          have q0 : decide (0 < i) = true := decide_eq_true (by omega)
          have q1 : decide (1 < i) = true := decide_eq_true (by omega)
          have HQ : Aside0 (decide (0 < i) = true ∧ decide (1 < i) = true ∧ decide (0 < i + 1) = true ∧ decide (1 < i + 1) = true) := ⟨⟨q0, q1, decide_eq_true (by omega), decide_eq_true (by omega)⟩⟩
          clear hc q0 q1
          go_wp2_with (first | (go_at_call 149; with_reducible refine (span_at g n m D A1 c1 b g0 g1 (i : Int) i rfl _ HR1.out HLen.out HG1.out).mono ?_; rw [HSp.out]; rintro e w3 ⟨rfl, hb3⟩; have HB3 := Aside0.mk hb3; clear hb3) | (go_at_call 148; with_reducible refine (end_calls p sp.f0 sp.f1 high _).mono ?_; rw [HRe.out]; rintro e w4 ⟨rfl, hb4⟩; have hb := HB3.out.trans (hb4.mono HB3.out.size); have HO4 := Aside0.mk (Kd.R_below HO.out hb); have HK4 := Aside0.mk (HK.out.below hb); have BK4 := Aside0.mk (blk_below BKi.out hb); have HB4 := Aside0.mk (HBr.out.trans (hb.mono HBr.out.size)); clear hb4 hb HB3 HO HK BKi HBr hx HG1 HR1; skip) | ((with_reducible refine gate_builtin (b := .append) (xs := #[.tmp 55, .tmp 57]) rfl ?_); at_builtin; refine Kd.R_append (Kd.int .i64) (w0 := w) w.heap.size rfl (.tmp 55) (.tmp 57) 22 3 (.int .i64 0) 8 rfl Try.underlying22 info3 rfl (by decide) (by omega) u11 (rowP n m D b ⟨g0, g1⟩ T high i) r [.int .i64 r] (fun k_ => wq.heap.size ≤ k_) (fun _ => False) rfl rfl ?aP (fun _ hk => hk.elim) ?aF ?aO ?aB ?aS ?aL ?_; (case aP => exact rfl); (case aB => exact HB4.out); (case aF => exact fun k_ hk => Nat.le_trans HK4.out.1 hk); (case aO => exact HO4.out); (case aS => exact HB4.out.size); (case aL => rw [rowP_len]; have := HIN.out; have := HN.out; omega); intro v11n w9 ho hb hg hat; rw [← HEw.out] at ho; rw [← rowP_succ n m D b ⟨g0, g1⟩ T high i HI2.out] at ho; have HO9 := Aside0.mk ho; have HK9 := Aside0.mk (HK4.out.of_grown hg (fun k hk => .inr (HO4.out.1 k hk))); have BK9 := Aside0.mk (blk_grown BK4.out hg (fun e => absurd (HO4.out.1 p10 e.symm) (Nat.not_le.2 HP.out))); have HB9 := Aside0.mk hb; clear HO4 HK4 BK4 HB4 ho hb hg hat; skip))
          go_roundw
          case measure => have := HIN.out; simp [intOf]; omega
          case rel => exact ⟨i + 1, by go_num, ⟨by have := HIN.out; omega⟩, HO9, HK9, ⟨by rw [HQ.out.2.2.1, HQ.out.2.2.2]; have h := BK9.out; rw [HQ.out.1, HQ.out.2.1] at h; exact h⟩, HB9⟩
      · obtain rfl : i = T + 2 := by have := HI.out; omega
        have hdi : decide (((T + 2 : Nat) : Int) < ((T + 2 : Nat) : Int)) = false := decide_eq_false (by omega)
        have hdn : decide (T + 2 < T + 2) = false := decide_eq_false (by omega)
        have bk := BKi.out
        rw [show decide (0 < T + 2) = true from decide_eq_true (by omega), show decide (1 < T + 2) = true from decide_eq_true (by omega), show sW (eW n m D b ⟨g0, g1⟩ T high 0) true = (eW n m D b ⟨g0, g1⟩ T high 0) from rfl, show sW (eW n m D b ⟨g0, g1⟩ T high 1) true = (eW n m D b ⟨g0, g1⟩ T high 1) from rfl, H1.out, H2.out] at bk
        have BKf := Aside0.mk bk
        clear bk
        have z0 := (blk_cell BKf.out 0).trans rfl
        have z1 := (blk_cell BKf.out 1).trans rfl
        have f0 := blk_frozen BKf.out 0
        have f1 := blk_frozen BKf.out 1
        go_wp2
        refine bodyPost_ret (results_list (rs := [.cell 10 28, .tmp 11, .tmp 12]) rfl (by simp) (.cell p10 28 #[.int .i64 r1, .int .i64 r2] (0, 0) _ rfl (blk_put (cs := #[.int .i64 r1, .int .i64 r2]) (blk_put (cs := #[.int .i64 r1, .int .i64 r2]) BKf.out 0 _ rfl) 1 _ rfl) Try.underlying28 rfl (by kernel_rfl) (.tmp (.tmp .nil)))) rfl ?_
        have hk2 : Kept wr ((wr.setCell ⟨p10, 0, none⟩ (.int .i64 r1)).setCell ⟨p10, 1, none⟩ (.int .i64 r2)) (fun k => k = p10) := Kept.setCell (p := ⟨p10, 1, none⟩) (S := fun k => k = p10) (Kept.setCell (p := ⟨p10, 0, none⟩) (S := fun k => k = p10) (Kept.refl wr _) (.inl rfl) _) (.inl rfl) _
        have ho := Kd.R_kept HO.out hk2 (fun k hk he => by have h1 := HP.out; have h2 : wq.heap.size ≤ k := hk; have h3 : k = p10 := he; omega)
        rw [H3.out] at ho
        exact ⟨_, rfl, Kd.R_mono ho (fun _ _ => trivial), below_set (below_set HBr.out GEp10.out) GEp10.out⟩
  · rw [if_neg he] at h'
    simp only [Prod.mk.injEq] at h'
    obtain ⟨rfl, rfl, rfl, rfl⟩ := h'
    have HE := Aside0.mk he
    have hne0 : (setE n m D b g0 g1 N != 0) = true := by simpa using he
    obtain ⟨E, hE⟩ : ∃ E, setE n m D b g0 g1 N = E := ⟨_, rfl⟩
    have HEq := Aside0.mk hE
    rw [hE] at hne0 ⊢
    clear he hE
    have HB := Aside0.mk (Below.refl w.heap.size w)
    go_enter Try.func83, Try.ntmps83
    go_wp2_with (first | ((with_reducible refine gate_dst (N := 5) rfl ?_); refine box_event ?hg (N := 5) ?hd (cs := #[.int .i64 n, .int .i64 m, .int .i64 D]) (t := 105) ?hr ?_; (case hd => rfl); (case hg => rfl); (case hr => first | (go_simp; done) | (go_simp; rfl)); intro gs hg w1 hbox hb; have n0_ := Aside0.mk (below_step HB.out hb); have x0_ := Aside0.mk (hbox); have x1_ := Aside0.mk ((by rw [hg]; exact HB.out.size : w.heap.size ≤ gs)); clear HB; have HB := n0_; clear n0_; have BKgs := x0_; clear x0_; have GEgs := x1_; clear x1_; clear hb hbox hg; skip) | ((with_reducible refine gate_dst (N := 7) rfl ?_); refine box_event ?hg (N := 7) ?hd (cs := #[.int .i64 g0, .int .i64 g1]) (t := 27) ?hr ?_; (case hd => rfl); (case hg => rfl); (case hr => first | (go_simp; done) | (go_simp; rfl)); intro gg hg w2 hbox hb; have n0_ := Aside0.mk (below_step HB.out hb); have m0_ := Aside0.mk (blk_below BKgs.out hb); have x0_ := Aside0.mk (hbox); have x1_ := Aside0.mk ((by rw [hg]; exact HB.out.size : w.heap.size ≤ gg)); clear HB; have HB := n0_; clear n0_; clear BKgs; have BKgs := m0_; clear m0_; have BKgg := x0_; clear x0_; have GEgg := x1_; clear x1_; clear hb hbox hg; skip) | ((with_reducible refine gate_dst (N := 10) rfl ?_); refine box_event ?hg (N := 10) ?hd (cs := #[.int .i64 0, .int .i64 0]) (t := 28) ?hr ?_; (case hd => rfl); (case hg => rfl); (case hr => first | (go_simp; done) | (go_simp; rfl)); intro p10 hg w3 hbox hb; have n0_ := Aside0.mk (below_step HB.out hb); have m0_ := Aside0.mk (blk_below BKgs.out hb); have m1_ := Aside0.mk (blk_below BKgg.out hb); have x0_ := Aside0.mk (hbox); have x1_ := Aside0.mk ((by rw [hg]; exact HB.out.size : w.heap.size ≤ p10)); clear HB; have HB := n0_; clear n0_; clear BKgs; have BKgs := m0_; clear m0_; clear BKgg; have BKgg := m1_; clear m1_; have BKp10 := x0_; clear x0_; have GEp10 := x1_; clear x1_; clear hb hbox hg; have zgs0 : w3.cell? ⟨gs, 0, none⟩ = some (.int .i64 n) := (blk_cell BKgs.out 0).trans rfl; have zgs1 : w3.cell? ⟨gs, 1, none⟩ = some (.int .i64 m) := (blk_cell BKgs.out 1).trans rfl; have zgs2 : w3.cell? ⟨gs, 2, none⟩ = some (.int .i64 D) := (blk_cell BKgs.out 2).trans rfl; have zgg0 : w3.cell? ⟨gg, 0, none⟩ = some (.int .i64 g0) := (blk_cell BKgg.out 0).trans rfl; have zgg1 : w3.cell? ⟨gg, 1, none⟩ = some (.int .i64 g1) := (blk_cell BKgg.out 1).trans rfl; skip) | (go_at_call 142; refine (newSet_err n m D A1 c1 b g0 g1 N _ (Kd.C_below HR.out HB.out) hc HE.out).mono ?_; rw [HEq.out]; rintro e w5 ⟨rfl, hb⟩; have n0_ := Aside0.mk (below_step HB.out hb); have m0_ := Aside0.mk (blk_below BKgs.out hb); have m1_ := Aside0.mk (blk_below BKgg.out hb); have m2_ := Aside0.mk (blk_below BKp10.out hb); clear HB; have HB := n0_; clear n0_; clear BKgs; have BKgs := m0_; clear m0_; clear BKgg; have BKgg := m1_; clear m1_; clear BKp10; have BKp10 := m2_; clear m2_; clear hb; clear zgs0; clear zgs1; clear zgs2; clear zgg0; clear zgg1; have zp100 : w5.cell? ⟨p10, 0, none⟩ = some (.int .i64 0) := (blk_cell BKp10.out 0).trans rfl; have zp101 : w5.cell? ⟨p10, 1, none⟩ = some (.int .i64 0) := (blk_cell BKp10.out 1).trans rfl; have f0 := blk_frozen BKp10.out 0; have f1 := blk_frozen BKp10.out 1; skip))
    refine bodyPost_ret (results_list (rs := [.cell 10 28, .tmp 11, .tmp 12]) rfl (by simp) (.cell p10 28 #[.int .i64 0, .int .i64 0] (0, 0) _ rfl (blk_put (cs := #[.int .i64 0, .int .i64 0]) (blk_put (cs := #[.int .i64 0, .int .i64 0]) BKp10.out 0 _ rfl) 1 _ rfl) Try.underlying28 rfl (by kernel_rfl) (.tmp (.tmp .nil)))) rfl ?_
    exact ⟨_, rfl, Kd.R_nil _ _ _ _ _, below_set (below_set HB.out GEp10.out) GEp10.out⟩
end Go.Proofs.Yteodlmgmmpkpoaa.PS
end
section
namespace Go.Proofs.Yteodlmgmmpkpoaa.PS
open Go.RowKit Go.Proofs.YteodlmgmmpkpoaaW.PrintWords Go.Proofs.YteodlmgmmpkpoaaW.PrintLast Go.Proofs.YteodlmgmmpkpoaaW.PrintMore
set_option linter.unusedVariables false
set_option linter.unusedSimpArgs false
theorem sw_calls (n m D a v : Int) (A : Option Addr) (c : Nat) (l : List Int) (N : Nat) (hN : l.length = N) (h16 : N ≤ 16) (x : Int) (hx : (stG n m D ⟨a, v, 1⟩ (fun i => l.getD i 0) N).a = x) (w : World) (hr : Kd.C (Kd.int .i64) w A N l) (hc : N ≤ c) :
    Calls Try.prog 134 #[.agg #[.int .i64 n, .int .i64 m, .int .i64 D], .int .i64 a, .int .i64 v, .slice A N c] w fun e w' => ∃ ad co, e = .returned (.slice (some ad) (N + 1) co) ∧ w'.cell? (ad.add N) = some (.int .i64 x) ∧ Below w.heap.size w w' := by
  subst hN
  refine (swashplateref07_swung.calls 200 n m D a v A c l _ w hr hc (swung_total n m D a v l h16 200 (by omega))).mono ?_
  rintro e w' ⟨v0, rfl, hR, hb⟩
  obtain ⟨Ao, co, eo⟩ := Kd.R_slice hR
  subst eo
  have hC := (Kd.R_reads' hR).2.2
  obtain ⟨ad, e0, hcell⟩ := Kd.at_int hC (l.length : Int) (by omega) (by rw [disp_len]; omega)
  subst e0
  rw [Int.toNat_natCast, disp_rd _ _ _ _ _ _ _ (by omega), hx] at hcell
  rw [disp_len]
  exact ⟨ad, co, rfl, hcell, hb⟩
theorem share2 {G Q : Prop} (hs1 : Aside0 G → Q) (hs2 : G) : Q := hs1 ⟨hs2⟩
theorem row_reads {w : World} {base : Nat} {ok : Nat → Prop} {A : Option Addr} {k c : Nat} {xs : List Int} (h : Kd.R (Kd.int .i64) 3 w base ok (.slice A k c) xs) : Kd.C (Kd.int .i64) w A k xs ∧ k ≤ c := by
  have h2 := Kd.R_reads' h
  rw [h2.1]
  exact ⟨h2.2.2, h2.1 ▸ h2.2.1⟩
theorem repl_set7 (N j t : Nat) (ht : t < N) : ((List.replicate N (0 : Int)).set j 1).getD t 0 = unG (j + 2) t := by
  unfold unG
  rw [List.getD_eq_getElem?_getD, List.getElem?_set]
  by_cases h : j = t
  · subst h
    rw [if_pos rfl, if_pos (by simpa using ht), if_pos rfl]; rfl
  · rw [if_neg h, List.getElem?_replicate, if_pos ht, if_neg (by omega)]; rfl
theorem getD_repl7 (N t : Nat) : (List.replicate N (0 : Int)).getD t 0 = 0 := by
  rw [List.getD_eq_getElem?_getD, List.getElem?_replicate]; split <;> rfl
theorem part0 (n m D : Int) (N : Nat) : (stG n m D ⟨1, 0, 1⟩ (fun i => (List.replicate N (0 : Int)).getD i 0) N).a = (partT n m D N 0).a := by
  unfold partT
  rw [st_congr n m D _ (unG 0) (fun i => (List.replicate N (0 : Int)).getD i 0) N (fun t ht => by rw [getD_repl7]; unfold unG; rw [if_neg (by omega)])]; rfl
theorem part1 (n m D : Int) (N : Nat) : (stG n m D ⟨0, 1, 1⟩ (fun i => (List.replicate N (0 : Int)).getD i 0) N).a = (partT n m D N 1).a := by
  unfold partT
  rw [st_congr n m D _ (unG 1) (fun i => (List.replicate N (0 : Int)).getD i 0) N (fun t ht => by rw [getD_repl7]; unfold unG; rw [if_neg (by omega)])]; rfl
theorem part2 (n m D : Int) (N j : Nat) : (stG n m D ⟨0, 0, 1⟩ (fun i => ((List.replicate N (0 : Int)).set j 1).getD i 0) N).a = (partT n m D N (j + 2)).a := by
  unfold partT
  have : unL (j + 2) = ⟨0, 0, 1⟩ := by unfold unL; rw [if_neg (by omega), if_neg (by omega)]
  rw [this, st_congr n m D _ (unG (j + 2)) _ N (fun t ht => (repl_set7 N j t ht).symm)]
def ref_weights.T2 : Bool × List (List Nat × List Nat) := (true, [([], []), ([], []), ([0, 1], [0, 1]), ([], []), ([2, 3], [2, 3]), ([4], [4]), ([], []), ([], []), ([6, 7, 2], [6, 7]), ([], []), ([8, 9], [8, 9]), ([10], [10]), ([5, 11], [5, 11]), ([12, 8, 0, 1, 2, 3, 4, 5, 6, 7, 8, 9, 10, 11, 12], [12])])
def ref_weights.B2 : List Nat := [0, 0, 3, 0, 15, 31, 0, 0, 199, 0, 967, 1991, 4095, 8191]
theorem ref_weights.tab2 : rtab .any (opsOf Try.f176 2) = ref_weights.T2 := by kernel_rfl
theorem ref_weights.bits2 : waitsOk ref_weights.T2.2 ref_weights.B2 = true := by kernel_rfl
set_option maxRecDepth 100000 in
set_option maxHeartbeats 8000000 in
theorem weights_calls (n m D : Int) (N : Nat) (h16 : N ≤ 16) (w : World) :
    Calls Try.prog 176 #[.agg #[.int .i64 n, .int .i64 m, .int .i64 D], .int .i64 N] w fun e w' => ∃ v, e = .returned v ∧ Kd.R (Kd.int .i64) 3 w' w.heap.size (fun _ => True) v (partsT n m D N) ∧ Below w.heap.size w w' := by
  have hN16 := Aside0.mk h16
  clear h16
  have HB := Aside0.mk (Below.refl w.heap.size w)
  go_enter Try.func176, Try.ntmps176
  go_wp2_with (first | ((with_reducible refine gate_dst (N := 2) rfl ?_); refine box_event ?hg (N := 2) ?hd (cs := #[.int .i64 n, .int .i64 m, .int .i64 D]) (t := 105) ?hr ?_; (case hd => rfl); (case hg => rfl); (case hr => first | (go_simp; done) | (go_simp; rfl)); intro gs hg w1 hbox hb; have n0_ := Aside0.mk (below_step HB.out hb); have x0_ := Aside0.mk (hbox); have x1_ := Aside0.mk ((by rw [hg]; exact HB.out.size : w.heap.size ≤ gs)); clear HB; have HB := n0_; clear n0_; have BKgs := x0_; clear x0_; have GEgs := x1_; clear x1_; clear hb hbox hg; skip) | ((with_reducible refine gate_dst (N := 10) rfl ?_); refine Kd.R_make (Kd.int .i64) _ 3 rfl (N := 10) rfl 22 _ _ rfl (N : Int) rfl rfl Try.underlying22 (.int .i64 0) 8 info3 rfl (by decide) (by omega) 0 (ok := fun _ => True) (okp := fun _ => True) rfl (fun _ hk => hk) trivial (by omega) (by rw [Int.toNat_natCast]; have := hN16.out; omega) (Below.refl _ _) (Nat.le_refl _) ?_; intro v5 w2 ho hb hg_ hnew_; clear hg_ hnew_; rw [Int.toNat_natCast] at ho; have n0_ := Aside0.mk (below_step HB.out hb); have n1_ := Aside0.mk (blk_below BKgs.out hb); obtain ⟨Az, cz, ez⟩ := Kd.R_slice ho; subst ez; rw [List.length_replicate] at ho ⊢; have HCz := Aside0.mk (row_reads ho).1; have HCc := Aside0.mk (row_reads ho).2; clear HB BKgs hb ho; have HB := n0_; have BKgs := n1_; clear n0_ n1_; have zgs0 := (blk_cell BKgs.out 0).trans rfl; have zgs1 := (blk_cell BKgs.out 1).trans rfl; have zgs2 := (blk_cell BKgs.out 2).trans rfl))
  apply share2
  case hs1 =>
    intro hG
    have iN : (N : Int) < (N : Int) + 1 := by omega
    have iN0 : (0 : Int) ≤ (N : Int) := by omega
    refine start_ (n := 14) (S := fun w' => w'.cell? ⟨gs, 0, none⟩ = some (.int .i64 n) ∧ w'.cell? ⟨gs, 1, none⟩ = some (.int .i64 m) ∧ w'.cell? ⟨gs, 2, none⟩ = some (.int .i64 D)) (ds := []) (mk 14 0) (by kernel_rfl) rfl (by kernel_rfl) ⟨zgs0, zgs1, zgs2⟩ (fun hHeld => ?_)
    refine with_tabW ref_weights.tab2 ref_weights.bits2 (fun HT_ HW_ => ?_)
    have hb0 := below_drew1 HB.out
    have k0 := blk_drew BKgs.out
    have hc0 := Kd.C_drew HCz.out
    generalize w2.drew = wz at hb0 k0 hc0 hHeld ⊢
    have HB := Aside0.mk hb0
    have BKgs := Aside0.mk k0
    have HCz := Aside0.mk hc0
    clear hb0 k0 hc0
    refine tk_ 0 11 (mk 14 1) HT_ HW_ hHeld ?_
    refine pu_ 1 12 (mk 14 3) HT_ ?_
    refine pu_ 3 14 (mk 14 11) HT_ ?_
    refine tk_ 6 17 (mk 14 75) HT_ HW_ hHeld ?_
    refine pu_ 7 18 (mk 14 203) HT_ ?_
    refine pu_ 9 20 (mk 14 715) HT_ ?_
    refine one_ (i := 2) (N := some 13) (mk 14 719) rfl rfl (one_of HT_.out (by kernel_rfl)) (by decide) (fun K hK => ?_)
    refine goes_ Try.func134 (by kernel_rfl) rfl #[.agg #[.int .i64 n, .int .i64 m, .int .i64 D], .int .i64 1, .int .i64 0, .slice Az N cz] (by rfl) rfl rfl (by (try simp only [List.map_toArray, List.map_cons, List.map_nil]); first | done | rfl | (simp only [List.length_drop, List.length_take]; rfl)) ?_
    with_reducible refine (sw_calls n m D 1 0 Az cz (List.replicate N 0) N (by simp) hN16.out _ (part0 n m D N) _ ?kc HCc.out).mono ?_
    (case kc => exact HCz.out)
    rintro e wa ⟨ad1, co1, rfl, hx, hb⟩
    refine ⟨_, rfl, ?_⟩
    have n0_ := Aside0.mk (below_step HB.out hb)
    have n1_ := Aside0.mk (blk_below BKgs.out hb)
    have n2_ := Aside0.mk (Kd.C_below HCz.out hb)
    have HX1 := Aside0.mk hx
    clear HB BKgs HCz hx hb
    have HB := n0_
    have BKgs := n1_
    have HCz := n2_
    clear n0_ n1_ n2_
    refine hK.out _ _ ⟨(blk_cell BKgs.out 0).trans rfl, (blk_cell BKgs.out 1).trans rfl, (blk_cell BKgs.out 2).trans rfl⟩ (fun hHeld => ?_)
    clear hK K
    refine nm_ ?_
    refine pu_ 4 15 (mk 14 735) HT_ ?_
    refine two_ (i := 5) (j := 8) (Ni := some 16) (Nj := some 19) (mk 14 767) (mk 14 991) rfl rfl rfl rfl (two_of HT_.out (by kernel_rfl)) (by decide) (by decide) (fun K hK => ?_) (fun K hK => ?_)
    · skip
      have hx := HX1.out
      refine value_ (w1 := ?_) (v := ?_) (by rfl) rfl ?_ ?_
      rotate_left 2
      · go_simp
        constructor
        · rfl
        · rfl
      clear hx
      refine hK.out _ _ ⟨(blk_cell BKgs.out 0).trans rfl, (blk_cell BKgs.out 1).trans rfl, (blk_cell BKgs.out 2).trans rfl⟩ (fun hHeld => ?_)
      clear hK K
      refine nm_ ?_
      refine one_ (i := 8) (N := some 19) (mk 14 1023) rfl rfl (one_of HT_.out (by kernel_rfl)) (by decide) (fun K hK => ?_)
      refine goes_ Try.func134 (by kernel_rfl) rfl #[.agg #[.int .i64 n, .int .i64 m, .int .i64 D], .int .i64 0, .int .i64 1, .slice Az N cz] (by rfl) rfl rfl (by (try simp only [List.map_toArray, List.map_cons, List.map_nil]); first | done | rfl | (simp only [List.length_drop, List.length_take]; rfl)) ?_
      with_reducible refine (sw_calls n m D 0 1 Az cz (List.replicate N 0) N (by simp) hN16.out _ (part1 n m D N) _ ?kc HCc.out).mono ?_
      (case kc => exact HCz.out)
      rintro e wb ⟨ad2, co2, rfl, hx, hb⟩
      refine ⟨_, rfl, ?_⟩
      have n0_ := Aside0.mk (below_step HB.out hb)
      have n1_ := Aside0.mk (blk_below BKgs.out hb)
      have n2_ := Aside0.mk (Kd.C_below HCz.out hb)
      have HX2 := Aside0.mk hx
      have n3_ := Aside0.mk ((hb.cell (World.block_lt_of_cell? _ _ HX1.out)).trans HX1.out)
      clear HB BKgs HCz hx hb HX1
      have HB := n0_
      have BKgs := n1_
      have HCz := n2_
      have HX1 := n3_
      clear n0_ n1_ n2_ n3_
      refine hK.out _ _ ⟨(blk_cell BKgs.out 0).trans rfl, (blk_cell BKgs.out 1).trans rfl, (blk_cell BKgs.out 2).trans rfl⟩ (fun hHeld => ?_)
      clear hK K
      refine nm_ ?_
      refine pu_ 10 21 (mk 14 2047) HT_ ?_
      refine one_ (i := 11) (N := some 22) (mk 14 4095) rfl rfl (one_of HT_.out (by kernel_rfl)) (by decide) (fun K hK => ?_)
      have hx := HX2.out
      refine value_ (w1 := ?_) (v := ?_) (by rfl) rfl ?_ ?_
      rotate_left 2
      · go_simp
        constructor
        · rfl
        · rfl
      clear hx
      refine hK.out _ _ ⟨(blk_cell BKgs.out 0).trans rfl, (blk_cell BKgs.out 1).trans rfl, (blk_cell BKgs.out 2).trans rfl⟩ (fun hHeld => ?_)
      clear hK K
      refine nm_ ?_
      refine one_ (i := 12) (N := some 23) (mk 14 8191) rfl rfl (one_of HT_.out (by kernel_rfl)) (by decide) (fun K hK => ?_)
      refine Kd.R_lit_step (Kd.int .i64) _ 3 ?hg (N := 23) ?hd (xs := ([(partT n m D N 0).a, (partT n m D N 1).a] : List Int)) (inner := [.int .i64 (partT n m D N 0).a, .int .i64 (partT n m D N 1).a]) (ok := fun _ => True) (okp := fun _ => True) ?hr ?hp (fun _ hk => hk) trivial (Below.refl _ _) (Nat.le_refl _) (by simp) ?_; (case hd => rfl); (case hg => rfl); (case hr => first | (go_simp; done) | (go_simp; rfl)); (case hp => exact (Reps.one (show Kd.M (Kd.int .i64) _ _ _ (partT n m D N 0).a [.int .i64 (partT n m D N 0).a] from rfl) (Reps.one (show Kd.M (Kd.int .i64) _ _ _ (partT n m D N 1).a [.int .i64 (partT n m D N 1).a] from rfl) (Reps.none _ _))))
      intro v23 wl ho hb hg_ hnew_
      clear hg_ hnew_
      have n0_ := Aside0.mk (below_step HB.out hb)
      have n1_ := Aside0.mk (blk_below BKgs.out hb)
      have HO := Aside0.mk (Kd.R_lower ho HB.out.size)
      clear HB BKgs hb ho
      have HB := n0_
      have BKgs := n1_
      clear n0_ n1_
      refine hK.out _ _ ⟨(blk_cell BKgs.out 0).trans rfl, (blk_cell BKgs.out 1).trans rfl, (blk_cell BKgs.out 2).trans rfl⟩ (fun hHeld => ?_)
      clear hK K
      refine nm_ ?_
      refine pu_ 13 6 (mk 14 16383) HT_ ?_
      refine done_ (done_of HT_.out (by kernel_rfl)) ?_
      have k0 := HO.out
      have k1 := HB.out
      have k2 := BKgs.out
      clear HO HB BKgs HCz HX1 HX2 hHeld HT_ HW_
      revert k0 k1 k2
      revert wl v23
      revert co2
      revert ad2
      revert co1
      revert ad1
      exact hG.out
    · skip
      refine goes_ Try.func134 (by kernel_rfl) rfl #[.agg #[.int .i64 n, .int .i64 m, .int .i64 D], .int .i64 0, .int .i64 1, .slice Az N cz] (by rfl) rfl rfl (by (try simp only [List.map_toArray, List.map_cons, List.map_nil]); first | done | rfl | (simp only [List.length_drop, List.length_take]; rfl)) ?_
      with_reducible refine (sw_calls n m D 0 1 Az cz (List.replicate N 0) N (by simp) hN16.out _ (part1 n m D N) _ ?kc HCc.out).mono ?_
      (case kc => exact HCz.out)
      rintro e wb ⟨ad2, co2, rfl, hx, hb⟩
      refine ⟨_, rfl, ?_⟩
      have n0_ := Aside0.mk (below_step HB.out hb)
      have n1_ := Aside0.mk (blk_below BKgs.out hb)
      have n2_ := Aside0.mk (Kd.C_below HCz.out hb)
      have HX2 := Aside0.mk hx
      have n3_ := Aside0.mk ((hb.cell (World.block_lt_of_cell? _ _ HX1.out)).trans HX1.out)
      clear HB BKgs HCz hx hb HX1
      have HB := n0_
      have BKgs := n1_
      have HCz := n2_
      have HX1 := n3_
      clear n0_ n1_ n2_ n3_
      refine hK.out _ _ ⟨(blk_cell BKgs.out 0).trans rfl, (blk_cell BKgs.out 1).trans rfl, (blk_cell BKgs.out 2).trans rfl⟩ (fun hHeld => ?_)
      clear hK K
      refine nm_ ?_
      refine pu_ 10 21 (mk 14 2015) HT_ ?_
      refine two_ (i := 5) (j := 11) (Ni := some 16) (Nj := some 22) (mk 14 2047) (mk 14 4063) rfl rfl rfl rfl (two_of HT_.out (by kernel_rfl)) (by decide) (by decide) (fun K hK => ?_) (fun K hK => ?_)
      · skip
        have hx := HX1.out
        refine value_ (w1 := ?_) (v := ?_) (by rfl) rfl ?_ ?_
        rotate_left 2
        · go_simp
          constructor
          · rfl
          · rfl
        clear hx
        refine hK.out _ _ ⟨(blk_cell BKgs.out 0).trans rfl, (blk_cell BKgs.out 1).trans rfl, (blk_cell BKgs.out 2).trans rfl⟩ (fun hHeld => ?_)
        clear hK K
        refine nm_ ?_
        refine one_ (i := 11) (N := some 22) (mk 14 4095) rfl rfl (one_of HT_.out (by kernel_rfl)) (by decide) (fun K hK => ?_)
        have hx := HX2.out
        refine value_ (w1 := ?_) (v := ?_) (by rfl) rfl ?_ ?_
        rotate_left 2
        · go_simp
          constructor
          · rfl
          · rfl
        clear hx
        refine hK.out _ _ ⟨(blk_cell BKgs.out 0).trans rfl, (blk_cell BKgs.out 1).trans rfl, (blk_cell BKgs.out 2).trans rfl⟩ (fun hHeld => ?_)
        clear hK K
        refine nm_ ?_
        refine one_ (i := 12) (N := some 23) (mk 14 8191) rfl rfl (one_of HT_.out (by kernel_rfl)) (by decide) (fun K hK => ?_)
        refine Kd.R_lit_step (Kd.int .i64) _ 3 ?hg (N := 23) ?hd (xs := ([(partT n m D N 0).a, (partT n m D N 1).a] : List Int)) (inner := [.int .i64 (partT n m D N 0).a, .int .i64 (partT n m D N 1).a]) (ok := fun _ => True) (okp := fun _ => True) ?hr ?hp (fun _ hk => hk) trivial (Below.refl _ _) (Nat.le_refl _) (by simp) ?_; (case hd => rfl); (case hg => rfl); (case hr => first | (go_simp; done) | (go_simp; rfl)); (case hp => exact (Reps.one (show Kd.M (Kd.int .i64) _ _ _ (partT n m D N 0).a [.int .i64 (partT n m D N 0).a] from rfl) (Reps.one (show Kd.M (Kd.int .i64) _ _ _ (partT n m D N 1).a [.int .i64 (partT n m D N 1).a] from rfl) (Reps.none _ _))))
        intro v23 wl ho hb hg_ hnew_
        clear hg_ hnew_
        have n0_ := Aside0.mk (below_step HB.out hb)
        have n1_ := Aside0.mk (blk_below BKgs.out hb)
        have HO := Aside0.mk (Kd.R_lower ho HB.out.size)
        clear HB BKgs hb ho
        have HB := n0_
        have BKgs := n1_
        clear n0_ n1_
        refine hK.out _ _ ⟨(blk_cell BKgs.out 0).trans rfl, (blk_cell BKgs.out 1).trans rfl, (blk_cell BKgs.out 2).trans rfl⟩ (fun hHeld => ?_)
        clear hK K
        refine nm_ ?_
        refine pu_ 13 6 (mk 14 16383) HT_ ?_
        refine done_ (done_of HT_.out (by kernel_rfl)) ?_
        have k0 := HO.out
        have k1 := HB.out
        have k2 := BKgs.out
        clear HO HB BKgs HCz HX1 HX2 hHeld HT_ HW_
        revert k0 k1 k2
        revert wl v23
        revert co2
        revert ad2
        revert co1
        revert ad1
        exact hG.out
      · skip
        have hx := HX2.out
        refine value_ (w1 := ?_) (v := ?_) (by rfl) rfl ?_ ?_
        rotate_left 2
        · go_simp
          constructor
          · rfl
          · rfl
        clear hx
        refine hK.out _ _ ⟨(blk_cell BKgs.out 0).trans rfl, (blk_cell BKgs.out 1).trans rfl, (blk_cell BKgs.out 2).trans rfl⟩ (fun hHeld => ?_)
        clear hK K
        refine nm_ ?_
        refine one_ (i := 5) (N := some 16) (mk 14 4095) rfl rfl (one_of HT_.out (by kernel_rfl)) (by decide) (fun K hK => ?_)
        have hx := HX1.out
        refine value_ (w1 := ?_) (v := ?_) (by rfl) rfl ?_ ?_
        rotate_left 2
        · go_simp
          constructor
          · rfl
          · rfl
        clear hx
        refine hK.out _ _ ⟨(blk_cell BKgs.out 0).trans rfl, (blk_cell BKgs.out 1).trans rfl, (blk_cell BKgs.out 2).trans rfl⟩ (fun hHeld => ?_)
        clear hK K
        refine nm_ ?_
        refine one_ (i := 12) (N := some 23) (mk 14 8191) rfl rfl (one_of HT_.out (by kernel_rfl)) (by decide) (fun K hK => ?_)
        refine Kd.R_lit_step (Kd.int .i64) _ 3 ?hg (N := 23) ?hd (xs := ([(partT n m D N 0).a, (partT n m D N 1).a] : List Int)) (inner := [.int .i64 (partT n m D N 0).a, .int .i64 (partT n m D N 1).a]) (ok := fun _ => True) (okp := fun _ => True) ?hr ?hp (fun _ hk => hk) trivial (Below.refl _ _) (Nat.le_refl _) (by simp) ?_; (case hd => rfl); (case hg => rfl); (case hr => first | (go_simp; done) | (go_simp; rfl)); (case hp => exact (Reps.one (show Kd.M (Kd.int .i64) _ _ _ (partT n m D N 0).a [.int .i64 (partT n m D N 0).a] from rfl) (Reps.one (show Kd.M (Kd.int .i64) _ _ _ (partT n m D N 1).a [.int .i64 (partT n m D N 1).a] from rfl) (Reps.none _ _))))
        intro v23 wl ho hb hg_ hnew_
        clear hg_ hnew_
        have n0_ := Aside0.mk (below_step HB.out hb)
        have n1_ := Aside0.mk (blk_below BKgs.out hb)
        have HO := Aside0.mk (Kd.R_lower ho HB.out.size)
        clear HB BKgs hb ho
        have HB := n0_
        have BKgs := n1_
        clear n0_ n1_
        refine hK.out _ _ ⟨(blk_cell BKgs.out 0).trans rfl, (blk_cell BKgs.out 1).trans rfl, (blk_cell BKgs.out 2).trans rfl⟩ (fun hHeld => ?_)
        clear hK K
        refine nm_ ?_
        refine pu_ 13 6 (mk 14 16383) HT_ ?_
        refine done_ (done_of HT_.out (by kernel_rfl)) ?_
        have k0 := HO.out
        have k1 := HB.out
        have k2 := BKgs.out
        clear HO HB BKgs HCz HX1 HX2 hHeld HT_ HW_
        revert k0 k1 k2
        revert wl v23
        revert co2
        revert ad2
        revert co1
        revert ad1
        exact hG.out
  case hs2 =>
    clear HB BKgs HCz zgs0 zgs1 zgs2
    intro ad1 co1 ad2 co2 v23 wl k0 k1 k2
    have HO := Aside0.mk k0
    have HB := Aside0.mk k1
    have BKgs := Aside0.mk k2
    clear k0 k1 k2
    try go_wp2
    go_loopw [6, 7] (fun v6 v7 wr => ∃ j : Nat, v7 = .int .i64 j ∧ Aside0 (j ≤ N) ∧ Aside0 (Kd.R (Kd.int .i64) 3 wr w.heap.size (fun _ => True) v6 ((List.range (j + 2)).map fun k => (partT n m D N k).a)) ∧ Aside0 (wr.heap[gs]? = some (.cells #[.int .i64 n, .int .i64 m, .int .i64 D] 105 (0, 0))) ∧ Aside0 (Below w.heap.size w wr)) (fun _ v7 _ => N - (intOf v7).toNat)
    case atStart => exact ⟨0, rfl, ⟨Nat.zero_le _⟩, HO, BKgs, HB⟩
    case round =>
      clear HO HB BKgs
      obtain ⟨j, rfl, HJ, HO, BKgs, HB⟩ := hrel
      by_cases hj : j < N
      · have hdj : decide ((j : Int) < (N : Int)) = true := decide_eq_true (by omega)
        have hdn : decide (j < N) = true := decide_eq_true hj
        have wj : IntKind.i64.wrap ((j : Int) + 1) = (j : Int) + 1 := by rw [i64_w]; exact wr64 (by omega) (by have := hN16.out; omega)
        have HJN := Aside0.mk hj
        have i0 : (0 : Int) ≤ (j : Int) := by omega
        have i1 : (j : Int) < (N : Int) := by omega
        have i2 : (N : Int) < ((N + 1 : Nat) : Int) := by omega
        have i3 : (0 : Int) ≤ (N : Int) := by omega
        have i4 : (N : Int) < (N : Int) + 1 := by omega
        clear hj
        go_wp2_with (first | ((with_reducible refine gate_dst (N := 30) rfl ?_); refine Kd.R_make (Kd.int .i64) _ 3 rfl (N := 30) rfl 22 _ _ rfl (N : Int) rfl rfl Try.underlying22 (.int .i64 0) 8 info3 rfl (by decide) (by omega) 0 (ok := fun _ => True) (okp := fun _ => True) rfl (fun _ hk => hk) trivial (by omega) (by rw [Int.toNat_natCast]; have := hN16.out; omega) (Below.refl _ _) (Nat.le_refl _) ?_; intro v30 w3 ho hb hg_ hnew_; clear hg_ hnew_; rw [Int.toNat_natCast] at ho; obtain ⟨gz, cz, ez, hz1, hz2, cellsz, hcz⟩ := Kd.R_form ho (by rw [List.length_replicate]; have := HJN.out; omega); subst ez; rw [List.length_replicate] at ho ⊢; obtain ⟨hy0, hf0⟩ := Kd.R_celln 0 ho (j : Int) (by omega) (by have := HJN.out; omega); rw [Int.toNat_natCast] at hy0 hf0; have HP := Kd.R_putg ho (j : Int) 1; rw [Int.toNat_natCast] at HP; have HO3 : Aside0 (Kd.R (Kd.int .i64) 3 w3 w.heap.size (fun k => k ≠ gz) u6 ((List.range (j + 2)).map fun k => (partT n m D N k).a)) := ⟨Kd.R_below (Kd.R_mono (Kd.R_bound HO.out) (fun k hk => by have := hk.2.2.1; omega)) hb⟩; have HB3 := Aside0.mk (below_step HB.out hb); have BK3 := Aside0.mk (blk_below BKgs.out hb); have HZ := Aside0.mk HP.1; have HZ3 : Aside0 (gz < w3.heap.size) := ⟨blk_lt hcz⟩; have HGz : Aside0 (w.heap.size ≤ gz) := ⟨Nat.le_trans HB.out.size hz1⟩; have HNe : Aside0 (gs ≠ gz) := ⟨by have := blk_lt BKgs.out; omega⟩; clear HO HB BKgs hb ho HP hz1 hz2 hcz cellsz) | ((with_reducible refine gate_store (t := 3) (p := 33) rfl ?_); refine store_event (t := 3) (p := 33) (v := ?vo) (w1 := (w3.setCell ⟨gz, j, none⟩ (.int .i64 1))) ?hg ?ho ?hn ?hr ?_; (case ho => rfl); (case hg => rfl); (case hn => rfl); (case hr => first | (go_simp; done) | (go_simp; rfl)); intro w4 hw; have HB4 := Aside0.mk (below_set (j := j) (v := .int .i64 1) HB3.out HGz.out); have BK4 := Aside0.mk (blk_far (p := ⟨gz, j, none⟩) BK3.out HNe.out (.int .i64 1)); have HO4 := Aside0.mk (Kd.R_kept HO3.out (Kept.setCell (p := ⟨gz, j, none⟩) (S := fun k => k = gz) (Kept.refl w3 _) (.inl rfl) (.int .i64 1)) (fun k hk he => hk he)); have hw4 := hw.symm; rw [hw4] at HZ HB4 BK4 HO4; have HZl : Aside0 (gz < w4.heap.size) := ⟨by rw [← hw4]; simp [World.setCell]; exact HZ3.out⟩; have HC4 := Aside0.mk (row_reads HZ.out).1; have HCc4 := Aside0.mk (row_reads HZ.out).2; clear hw4 hw HO3 HB3 BK3 hy0 hf0 HZ; have zgs0 := (blk_cell BK4.out 0).trans rfl; have zgs1 := (blk_cell BK4.out 1).trans rfl; have zgs2 := (blk_cell BK4.out 2).trans rfl) | (go_at_call 134; with_reducible refine (sw_calls n m D 0 0 (some ⟨gz, 0, none⟩) cz ((List.replicate N 0).set j 1) N (by simp) hN16.out _ (part2 n m D N j) _ HC4.out HCc4.out).mono ?_; rintro e w5 ⟨ad5, co5, rfl, hx5, hb⟩; have HO5 := Aside0.mk (Kd.R_below HO4.out hb); have BK5 := Aside0.mk (blk_below BK4.out hb); have HB5 := Aside0.mk (below_step HB4.out hb); have HGs : Aside0 (gz < w5.heap.size) := ⟨Nat.lt_of_lt_of_le HZl.out hb.size⟩; clear HO4 BK4 HB4 hb zgs0 zgs1 zgs2 HC4 HCc4) | ((with_reducible refine gate_builtin (b := .append) (xs := #[.tmp 34, .tmp 41]) rfl ?_); at_builtin; refine Kd.R_append (Kd.int .i64) (w0 := w) w.heap.size rfl (.tmp 34) (.tmp 41) 22 3 (.int .i64 0) 8 rfl Try.underlying22 info3 rfl (by decide) (by omega) u6 ((List.range (j + 2)).map fun k => (partT n m D N k).a) (partT n m D N (j + 2)).a [.int .i64 (partT n m D N (j + 2)).a] (fun k_ => k_ ≠ gz) (fun _ => False) rfl rfl ?aP (fun _ hk => hk.elim) ?aF ?aO ?aB ?aS ?aL ?_; (case aP => exact rfl); (case aB => exact HB5.out); (case aF => exact fun k_ hk => by have := HGs.out; omega); (case aO => exact HO5.out); (case aS => exact HB5.out.size); (case aL => simp; have := HJN.out; have := hN16.out; omega); intro v6n w9 ho hb hg hat; rw [← parts_succ n m D N (j + 2)] at ho; have HO9 := Aside0.mk ho; have BK9 := Aside0.mk (blk_grown BK5.out hg (Kd.R_ne HO5.out BK5.out (by decide))); have HB9 := Aside0.mk hb; clear HO5 BK5 HB5 ho hb hg hat; skip))
        go_roundw
        case measure => have := HJN.out; simp [intOf]; omega
        case rel => exact ⟨j + 1, by go_num, ⟨by have := HJN.out; omega⟩, ⟨Kd.R_mono HO9.out (fun _ _ => trivial)⟩, BK9, HB9⟩
      · obtain rfl : j = N := by have := HJ.out; omega
        have hdj : decide ((j : Int) < (j : Int)) = false := decide_eq_false (by omega)
        have hdn : decide (j < j) = false := decide_eq_false (by omega)
        go_wp2
        go_ret
        exact ⟨_, rfl, HO.out, HB.out⟩
end Go.Proofs.Yteodlmgmmpkpoaa.PS
end
section
namespace Go.Proofs.Yteodlmgmmpkpoaa.PS
open Go.RowKit Go.Proofs.YteodlmgmmpkpoaaW.PrintWords Go.Proofs.YteodlmgmmpkpoaaW.PrintLast Go.Proofs.YteodlmgmmpkpoaaW.PrintMore
set_option linter.unusedVariables false
set_option linter.unusedSimpArgs false
def swashplateref07_ends.f (k : Nat) (n m D : Int) (b : List S27) (g0 g1 N : Int) (high : Bool) : Option (List Int × Int) :=
  if b.length = 2 ∧ 0 ≤ N ∧ N ≤ 16 then some (rowT n m D b ⟨g0, g1⟩ N.toNat high, mostT n m D b ⟨g0, g1⟩ N.toNat high (N.toNat + 2)) else none
theorem rowE (n m D : Int) (b : List S27) (g : S27) (N : Nat) (high : Bool) : rowT n m D b g N high = (List.range (N + 2)).map (eW n m D b g N high) := rfl
theorem rowE_succ (n m D : Int) (b : List S27) (g : S27) (N : Nat) (high : Bool) (i : Nat) : (List.range (i + 1)).map (eW n m D b g N high) = (List.range i).map (eW n m D b g N high) ++ [eW n m D b g N high i] := by
  rw [List.range_succ, List.map_append]; rfl
set_option maxRecDepth 100000 in
set_option maxHeartbeats 8000000 in
theorem swashplateref07_ends.calls (k : Nat) (n : Int) (m : Int) (D : Int) (A1 : Option Addr) (c1 : Nat) (b : List (S27)) (g0 : Int) (g1 : Int) (N : Int) (high : Bool) (r1 : List Int) (r2 : Int) (w : World) (hr1 : Kd.C k27 w A1 b.length b) (hc1 : b.length ≤ c1) (h : swashplateref07_ends.f k n m D b g0 g1 N high = some (r1, r2)) :
    Calls Try.prog 146 #[.agg #[.int .i64 n, .int .i64 m, .int .i64 D], .slice A1 b.length c1, .agg #[.int .i64 g0, .int .i64 g1], .int .i64 N, .bool high] w fun e w' => ∃ v0_ : Value, e = .returned (.tuple #[v0_, .int .i64 r2]) ∧ Kd.R (Kd.int .i64) 3 w' w.heap.size (fun _ => True) v0_ r1 ∧ Below w.heap.size w w' := by
  unfold swashplateref07_ends.f at h
  by_cases hc : b.length = 2 ∧ 0 ≤ N ∧ N ≤ 16
  · rw [if_pos hc] at h
    simp only [Option.some.injEq, Prod.mk.injEq] at h
    obtain ⟨e1, e2⟩ := h
    obtain ⟨hlen, h0, h16⟩ := hc
    obtain ⟨T, rfl⟩ : ∃ T : Nat, N = T := ⟨N.toNat, by omega⟩
    rw [Int.toNat_natCast] at e1 e2
    rw [rowE] at e1
    have HR := Aside0.mk hr1
    have HLen := Aside0.mk hlen
    have HN : Aside0 (T ≤ 16) := ⟨by omega⟩
    have HE1 := Aside0.mk e1
    have HE2 := Aside0.mk e2
    clear hr1 hlen h0 h16 e1 e2
    have HB := Aside0.mk (Below.refl w.heap.size w)
    go_enter Try.func146, Try.ntmps146
    go_wp2_with (first | ((with_reducible refine gate_dst (N := 5) rfl ?_); refine box_event ?hg (N := 5) ?hd (cs := #[.int .i64 n, .int .i64 m, .int .i64 D]) (t := 105) ?hr ?_; (case hd => rfl); (case hg => rfl); (case hr => first | (go_simp; done) | (go_simp; rfl)); intro gs hg w1 hbox hb; have n0_ := Aside0.mk (below_step HB.out hb); have x0_ := Aside0.mk (hbox); have x1_ := Aside0.mk ((by rw [hg]; exact HB.out.size : w.heap.size ≤ gs)); clear HB; have HB := n0_; clear n0_; have BKgs := x0_; clear x0_; have GEgs := x1_; clear x1_; clear hb hbox hg; skip) | ((with_reducible refine gate_dst (N := 7) rfl ?_); refine box_event ?hg (N := 7) ?hd (cs := #[.int .i64 g0, .int .i64 g1]) (t := 27) ?hr ?_; (case hd => rfl); (case hg => rfl); (case hr => first | (go_simp; done) | (go_simp; rfl)); intro gg hg w2 hbox hb; have n0_ := Aside0.mk (below_step HB.out hb); have m0_ := Aside0.mk (blk_below BKgs.out hb); have x0_ := Aside0.mk (hbox); have x1_ := Aside0.mk ((by rw [hg]; exact HB.out.size : w.heap.size ≤ gg)); clear HB; have HB := n0_; clear n0_; clear BKgs; have BKgs := m0_; clear m0_; have BKgg := x0_; clear x0_; have GEgg := x1_; clear x1_; clear hb hbox hg; have zgs0 : w2.cell? ⟨gs, 0, none⟩ = some (.int .i64 n) := (blk_cell BKgs.out 0).trans rfl; have zgs1 : w2.cell? ⟨gs, 1, none⟩ = some (.int .i64 m) := (blk_cell BKgs.out 1).trans rfl; have zgs2 : w2.cell? ⟨gs, 2, none⟩ = some (.int .i64 D) := (blk_cell BKgs.out 2).trans rfl; skip) | (go_at_call 176; with_reducible refine (weights_calls n m D T HN.out _).mono ?_; rintro e wq ⟨v, rfl, hRv, hb⟩; have HV := Aside0.mk (Kd.R_lower hRv HB.out.size); clear hRv; have n0_ := Aside0.mk (below_step HB.out hb); have m0_ := Aside0.mk (blk_below BKgs.out hb); have m1_ := Aside0.mk (blk_below BKgg.out hb); clear HB; have HB := n0_; clear n0_; clear BKgs; have BKgs := m0_; clear m0_; clear BKgg; have BKgg := m1_; clear m1_; clear hb; clear zgs0; clear zgs1; clear zgs2; obtain ⟨Ao, co, eo⟩ := Kd.R_slice HV.out; subst eo; rw [partsT_len] at HV ⊢; skip))
    have HS := Aside0.mk HB.out.size
    clear BKgs
    go_loopw [13, 14, 15] (fun v13 v14 v15 wr => ∃ i : Nat, v15 = .int .i64 i ∧ v14 = .int .i64 (mostT n m D b ⟨g0, g1⟩ T high i) ∧ Aside0 (i ≤ T + 2) ∧ Aside0 (Kd.R (Kd.int .i64) 3 wr w.heap.size (fun k => wq.heap.size ≤ k) v13 ((List.range i).map (eW n m D b ⟨g0, g1⟩ T high))) ∧ Aside0 (Kept wq wr (fun _ => False)) ∧ Aside0 (Below w.heap.size w wr)) (fun _ _ v15 _ => T + 2 - (intOf v15).toNat)
    case atStart => exact ⟨0, rfl, rfl, ⟨Nat.zero_le _⟩, ⟨Kd.R_nil _ _ _ _ _⟩, ⟨Kept.refl _ _⟩, HB⟩
    case round =>
      obtain ⟨i, rfl, rfl, HI, HO, HK, HBr⟩ := hrel
      clear HB
      have HM := Aside0.mk (show (mostT n m D b ⟨g0, g1⟩ T high (i + 1)) = wrap64 ((mostT n m D b ⟨g0, g1⟩ T high i) + wrap64 ((partT n m D T i).a * eW n m D b ⟨g0, g1⟩ T high i)) from rfl)
      obtain ⟨S, hS⟩ : ∃ S, (mostT n m D b ⟨g0, g1⟩ T high i) = S := ⟨_, rfl⟩
      rw [hS]
      have HSm := Aside0.mk hS
      clear hS
      by_cases hi : i < T + 2
      · have hdn : decide (i < T + 2) = true := decide_eq_true hi
        have hdi : decide ((i : Int) < (T : Int) + 2) = true := decide_eq_true (by omega)
        have wi : IntKind.i64.wrap ((i : Int) + 1) = (i : Int) + 1 := by rw [i64_w]; exact wr64 (by omega) (by have := HN.out; omega)
        have hor := Kd.R_kept HV.out HK.out (fun _ _ h => h)
        have hC := (Kd.R_reads' hor).2.2
        obtain ⟨adw, e0, hx⟩ := Kd.at_int hC (i : Int) (by omega) (by rw [partsT_len]; omega)
        subst e0
        rw [Int.toNat_natCast, partsT_rd n m D T i hi] at hx
        have hadw : ¬ wq.heap.size ≤ adw.block := by
          have hq := (Kd.R_reads' HV.out).2.2
          obtain ⟨adq, eq, hxq⟩ := Kd.at_int hq (i : Int) (by omega) (by rw [partsT_len]; omega)
          injection eq with eq
          subst eq
          have := World.block_lt_of_cell? _ _ hxq
          rw [show (adw.add (i : Int).toNat).block = adw.block by unfold Addr.add; split <;> rfl] at this
          omega
        have HEw := Aside0.mk (show eW n m D b ⟨g0, g1⟩ T high i = endT (partT n m D T i).a (spanT b ⟨g0, g1⟩ i).f0 (spanT b ⟨g0, g1⟩ i).f1 high from rfl)
        obtain ⟨p, hp⟩ : ∃ p, (partT n m D T i).a = p := ⟨_, rfl⟩
        rw [hp] at hx HEw HM
        have HX := Aside0.mk hx
        have HIN := Aside0.mk hi
        have i0 : (0 : Int) ≤ (i : Int) := by omega
        have i1 : (i : Int) < ((T + 2 : Nat) : Int) := by omega
        have i2 : (i : Int) < (T : Int) + 2 := by omega
        have BKr := Aside0.mk (blk_kept BKgg.out HK.out (fun h => h))
        have HR1 := Aside0.mk (Kd.C_below HR.out HBr.out)
        have zg0 := (blk_cell BKr.out 0).trans rfl
        have zg1 := (blk_cell BKr.out 1).trans rfl
        clear hp hor hC hx hi
        have HXne : Aside0 (¬ wq.heap.size ≤ (adw.add i).block) := ⟨by rw [show (adw.add i).block = adw.block by unfold Addr.add; split <;> rfl]; exact hadw⟩
        clear hadw
        by_cases h2 : i < 2
        · cases high with
          | true =>
            by_cases hp : p > 0
            · skip
              have hlen := HLen.out
              obtain ⟨ad, e0, x0, x1⟩ := at_T27 HR1.out (i : Int) (by omega) (by omega)
              obtain ⟨sp, hsp⟩ : ∃ sp, b.getD i z27 = sp := ⟨_, rfl⟩
              rw [rdT27_nat, Int.toNat_natCast, hsp] at x0 x1
              have hspt : spanT b ⟨g0, g1⟩ i = sp := by unfold spanT; rw [if_pos h2, hsp]
              have HX0 := Aside0.mk x0
              have HX1 := Aside0.mk x1
              have j1 : (i : Int) < (b.length : Int) := by omega
              have d2 : decide ((i : Int) < 2) = true := decide_eq_true (by omega)
              subst e0
              clear x0 x1 hlen hsp
              have HEr : Aside0 (eW n m D b ⟨g0, g1⟩ T true i = sp.f1) := ⟨by rw [HEw.out, hspt, endT_high, if_pos hp]⟩
              have d3 : decide (p > 0) = true := decide_eq_true hp
              clear h2 hp hspt HEw
              go_wp2_with (first | ((with_reducible refine gate_dst (N := 16) rfl ?_); refine box_event ?hg (N := 16) ?hd (cs := #[.int .i64 0, .int .i64 0]) (t := 27) ?hr ?_; (case hd => rfl); (case hg => rfl); (case hr => first | (go_simp; done) | (go_simp; rfl)); intro ga hga w3 hbox hb; have BKa := Aside0.mk hbox; have HB3 := Aside0.mk hb; have GEa : Aside0 (wr.heap.size ≤ ga) := ⟨by rw [hga]; exact Nat.le_refl _⟩; clear hbox hb hga; have a0 := (blk_cell BKa.out 0).trans rfl; have a1 := (blk_cell BKa.out 1).trans rfl; have f0 := blk_frozen BKa.out 0; have f1 := blk_frozen BKa.out 1; have zh0 := (HB3.out.cell (World.block_lt_of_cell? _ _ zg0)).trans zg0; have zh1 := (HB3.out.cell (World.block_lt_of_cell? _ _ zg1)).trans zg1) | ((with_reducible refine gate_store (t := 27) (p := 16) rfl ?_); refine store_event (t := 27) (p := 16) (v := ?vow4) (w1 := ((w3.setCell ⟨ga, 0, none⟩ (.int .i64 g0)).setCell ⟨ga, 1, none⟩ (.int .i64 g1))) ?hg ?ho ?hn ?hr ?_; (case ho => rfl); (case hg => rfl); (case hn => rfl); (case hr => first | (go_simp; done) | (go_simp; rfl)); intro w4 hw; have n0_ : Aside0 (w4.heap[ga]? = some (.cells #[.int .i64 g0, .int .i64 g1] 27 (0, 0))) := ⟨by rw [hw]; exact blk_put (cs := #[.int .i64 g0, .int .i64 0]) (blk_put (cs := #[.int .i64 0, .int .i64 0]) BKa.out 0 _ rfl) 1 _ rfl⟩; have HB4 : Aside0 (Below wr.heap.size wr w4) := ⟨by rw [hw]; exact below_set (below_set HB3.out GEa.out) GEa.out⟩; clear a0 a1 f0 f1 BKa hw; have BKa := n0_; clear n0_; have a0 := (blk_cell BKa.out 0).trans rfl; have a1 := (blk_cell BKa.out 1).trans rfl; have f0 := blk_frozen BKa.out 0; have f1 := blk_frozen BKa.out 1; have y0 := (HB4.out.cell (World.block_lt_of_cell? _ _ HX0.out)).trans HX0.out; have y1 := (HB4.out.cell (World.block_lt_of_cell? _ _ HX1.out)).trans HX1.out; clear zg0 zg1 zh0 zh1; skip) | ((with_reducible refine gate_store (t := 27) (p := 16) rfl ?_); refine store_event (t := 27) (p := 16) (v := ?vow5) (w1 := ((w4.setCell ⟨ga, 0, none⟩ (.int .i64 sp.f0)).setCell ⟨ga, 1, none⟩ (.int .i64 sp.f1))) ?hg ?ho ?hn ?hr ?_; (case ho => rfl); (case hg => rfl); (case hn => rfl); (case hr => first | (go_simp; done) | (go_simp; rfl)); intro w5 hw; have n0_ : Aside0 (w5.heap[ga]? = some (.cells #[.int .i64 sp.f0, .int .i64 sp.f1] 27 (0, 0))) := ⟨by rw [hw]; exact blk_put (cs := #[.int .i64 sp.f0, .int .i64 g1]) (blk_put (cs := #[.int .i64 g0, .int .i64 g1]) BKa.out 0 _ rfl) 1 _ rfl⟩; have HB5 : Aside0 (Below wr.heap.size wr w5) := ⟨by rw [hw]; exact below_set (below_set HB4.out GEa.out) GEa.out⟩; clear a0 a1 f0 f1 BKa hw; have BKa := n0_; clear n0_; have a0 := (blk_cell BKa.out 0).trans rfl; have a1 := (blk_cell BKa.out 1).trans rfl; have f0 := blk_frozen BKa.out 0; have f1 := blk_frozen BKa.out 1; clear y0 y1; have hx5 := (HB5.out.cell (World.block_lt_of_cell? _ _ HX.out)).trans HX.out; skip) | ((with_reducible refine gate_builtin (b := .append) (xs := #[.tmp 57, .tmp 59]) rfl ?_); at_builtin; refine Kd.R_append (Kd.int .i64) (w0 := w) w.heap.size rfl (.tmp 57) (.tmp 59) 22 3 (.int .i64 0) 8 rfl Try.underlying22 info3 rfl (by decide) (by omega) u13 ((List.range i).map (eW n m D b ⟨g0, g1⟩ T true)) sp.f1 [.int .i64 sp.f1] (fun k_ => wq.heap.size ≤ k_) (fun _ => False) rfl rfl ?aP (fun _ hk => hk.elim) ?aF ?aO ?aB ?aS ?aL ?_; (case aP => exact rfl); (case aB => exact (HBr.out.trans (HB5.out.mono HBr.out.size))); (case aF => exact fun k_ hk => Nat.le_trans HK.out.1 (Nat.le_trans HB5.out.size hk)); (case aO => exact (Kd.R_below HO.out HB5.out)); (case aS => exact (Nat.le_trans HBr.out.size HB5.out.size)); (case aL => simp; have := HIN.out; have := HN.out; omega); intro v13n w9 ho hb hg hat; have HRow := Aside0.mk ho; have HK9 := Aside0.mk ((HK.out.below HB5.out).of_grown hg (fun k hk => .inr (HO.out.1 k hk))); have HB9 := Aside0.mk hb; have hx9 := (Go.Proofs.YteodlmgmmpkpoaaW.PrintWords.cell_kept HX.out ((Kept.of_below HB5.out (fun k => wq.heap.size ≤ k)).of_grown hg (fun k hk => .inl (HO.out.1 k hk))) HXne.out); clear ho hb hg hat hx5; skip))
              go_roundw
              case measure => have := HIN.out; simp [intOf]; omega
              case rel => exact ⟨i + 1, by go_num, by rw [HM.out, HSm.out, HEr.out], ⟨by have := HIN.out; omega⟩, ⟨by rw [rowE_succ, HEr.out]; exact HRow.out⟩, HK9, HB9⟩
            · skip
              have hlen := HLen.out
              obtain ⟨ad, e0, x0, x1⟩ := at_T27 HR1.out (i : Int) (by omega) (by omega)
              obtain ⟨sp, hsp⟩ : ∃ sp, b.getD i z27 = sp := ⟨_, rfl⟩
              rw [rdT27_nat, Int.toNat_natCast, hsp] at x0 x1
              have hspt : spanT b ⟨g0, g1⟩ i = sp := by unfold spanT; rw [if_pos h2, hsp]
              have HX0 := Aside0.mk x0
              have HX1 := Aside0.mk x1
              have j1 : (i : Int) < (b.length : Int) := by omega
              have d2 : decide ((i : Int) < 2) = true := decide_eq_true (by omega)
              subst e0
              clear x0 x1 hlen hsp
              have HEr : Aside0 (eW n m D b ⟨g0, g1⟩ T true i = sp.f0) := ⟨by rw [HEw.out, hspt, endT_high, if_neg hp]⟩
              have d3 : decide (p > 0) = false := decide_eq_false hp
              clear h2 hp hspt HEw
              go_wp2_with (first | ((with_reducible refine gate_dst (N := 16) rfl ?_); refine box_event ?hg (N := 16) ?hd (cs := #[.int .i64 0, .int .i64 0]) (t := 27) ?hr ?_; (case hd => rfl); (case hg => rfl); (case hr => first | (go_simp; done) | (go_simp; rfl)); intro ga hga w3 hbox hb; have BKa := Aside0.mk hbox; have HB3 := Aside0.mk hb; have GEa : Aside0 (wr.heap.size ≤ ga) := ⟨by rw [hga]; exact Nat.le_refl _⟩; clear hbox hb hga; have a0 := (blk_cell BKa.out 0).trans rfl; have a1 := (blk_cell BKa.out 1).trans rfl; have f0 := blk_frozen BKa.out 0; have f1 := blk_frozen BKa.out 1; have zh0 := (HB3.out.cell (World.block_lt_of_cell? _ _ zg0)).trans zg0; have zh1 := (HB3.out.cell (World.block_lt_of_cell? _ _ zg1)).trans zg1) | ((with_reducible refine gate_store (t := 27) (p := 16) rfl ?_); refine store_event (t := 27) (p := 16) (v := ?vow4) (w1 := ((w3.setCell ⟨ga, 0, none⟩ (.int .i64 g0)).setCell ⟨ga, 1, none⟩ (.int .i64 g1))) ?hg ?ho ?hn ?hr ?_; (case ho => rfl); (case hg => rfl); (case hn => rfl); (case hr => first | (go_simp; done) | (go_simp; rfl)); intro w4 hw; have n0_ : Aside0 (w4.heap[ga]? = some (.cells #[.int .i64 g0, .int .i64 g1] 27 (0, 0))) := ⟨by rw [hw]; exact blk_put (cs := #[.int .i64 g0, .int .i64 0]) (blk_put (cs := #[.int .i64 0, .int .i64 0]) BKa.out 0 _ rfl) 1 _ rfl⟩; have HB4 : Aside0 (Below wr.heap.size wr w4) := ⟨by rw [hw]; exact below_set (below_set HB3.out GEa.out) GEa.out⟩; clear a0 a1 f0 f1 BKa hw; have BKa := n0_; clear n0_; have a0 := (blk_cell BKa.out 0).trans rfl; have a1 := (blk_cell BKa.out 1).trans rfl; have f0 := blk_frozen BKa.out 0; have f1 := blk_frozen BKa.out 1; have y0 := (HB4.out.cell (World.block_lt_of_cell? _ _ HX0.out)).trans HX0.out; have y1 := (HB4.out.cell (World.block_lt_of_cell? _ _ HX1.out)).trans HX1.out; clear zg0 zg1 zh0 zh1; skip) | ((with_reducible refine gate_store (t := 27) (p := 16) rfl ?_); refine store_event (t := 27) (p := 16) (v := ?vow5) (w1 := ((w4.setCell ⟨ga, 0, none⟩ (.int .i64 sp.f0)).setCell ⟨ga, 1, none⟩ (.int .i64 sp.f1))) ?hg ?ho ?hn ?hr ?_; (case ho => rfl); (case hg => rfl); (case hn => rfl); (case hr => first | (go_simp; done) | (go_simp; rfl)); intro w5 hw; have n0_ : Aside0 (w5.heap[ga]? = some (.cells #[.int .i64 sp.f0, .int .i64 sp.f1] 27 (0, 0))) := ⟨by rw [hw]; exact blk_put (cs := #[.int .i64 sp.f0, .int .i64 g1]) (blk_put (cs := #[.int .i64 g0, .int .i64 g1]) BKa.out 0 _ rfl) 1 _ rfl⟩; have HB5 : Aside0 (Below wr.heap.size wr w5) := ⟨by rw [hw]; exact below_set (below_set HB4.out GEa.out) GEa.out⟩; clear a0 a1 f0 f1 BKa hw; have BKa := n0_; clear n0_; have a0 := (blk_cell BKa.out 0).trans rfl; have a1 := (blk_cell BKa.out 1).trans rfl; have f0 := blk_frozen BKa.out 0; have f1 := blk_frozen BKa.out 1; clear y0 y1; have hx5 := (HB5.out.cell (World.block_lt_of_cell? _ _ HX.out)).trans HX.out; skip) | ((with_reducible refine gate_builtin (b := .append) (xs := #[.tmp 57, .tmp 59]) rfl ?_); at_builtin; refine Kd.R_append (Kd.int .i64) (w0 := w) w.heap.size rfl (.tmp 57) (.tmp 59) 22 3 (.int .i64 0) 8 rfl Try.underlying22 info3 rfl (by decide) (by omega) u13 ((List.range i).map (eW n m D b ⟨g0, g1⟩ T true)) sp.f0 [.int .i64 sp.f0] (fun k_ => wq.heap.size ≤ k_) (fun _ => False) rfl rfl ?aP (fun _ hk => hk.elim) ?aF ?aO ?aB ?aS ?aL ?_; (case aP => exact rfl); (case aB => exact (HBr.out.trans (HB5.out.mono HBr.out.size))); (case aF => exact fun k_ hk => Nat.le_trans HK.out.1 (Nat.le_trans HB5.out.size hk)); (case aO => exact (Kd.R_below HO.out HB5.out)); (case aS => exact (Nat.le_trans HBr.out.size HB5.out.size)); (case aL => simp; have := HIN.out; have := HN.out; omega); intro v13n w9 ho hb hg hat; have HRow := Aside0.mk ho; have HK9 := Aside0.mk ((HK.out.below HB5.out).of_grown hg (fun k hk => .inr (HO.out.1 k hk))); have HB9 := Aside0.mk hb; have hx9 := (Go.Proofs.YteodlmgmmpkpoaaW.PrintWords.cell_kept HX.out ((Kept.of_below HB5.out (fun k => wq.heap.size ≤ k)).of_grown hg (fun k hk => .inl (HO.out.1 k hk))) HXne.out); clear ho hb hg hat hx5; skip))
              go_roundw
              case measure => have := HIN.out; simp [intOf]; omega
              case rel => exact ⟨i + 1, by go_num, by rw [HM.out, HSm.out, HEr.out], ⟨by have := HIN.out; omega⟩, ⟨by rw [rowE_succ, HEr.out]; exact HRow.out⟩, HK9, HB9⟩
          | false =>
            by_cases hp : p < 0
            · skip
              have hlen := HLen.out
              obtain ⟨ad, e0, x0, x1⟩ := at_T27 HR1.out (i : Int) (by omega) (by omega)
              obtain ⟨sp, hsp⟩ : ∃ sp, b.getD i z27 = sp := ⟨_, rfl⟩
              rw [rdT27_nat, Int.toNat_natCast, hsp] at x0 x1
              have hspt : spanT b ⟨g0, g1⟩ i = sp := by unfold spanT; rw [if_pos h2, hsp]
              have HX0 := Aside0.mk x0
              have HX1 := Aside0.mk x1
              have j1 : (i : Int) < (b.length : Int) := by omega
              have d2 : decide ((i : Int) < 2) = true := decide_eq_true (by omega)
              subst e0
              clear x0 x1 hlen hsp
              have HEr : Aside0 (eW n m D b ⟨g0, g1⟩ T false i = sp.f1) := ⟨by rw [HEw.out, hspt, endT_low, if_pos hp]⟩
              have d3 : decide (p < 0) = true := decide_eq_true hp
              clear h2 hp hspt HEw
              go_wp2_with (first | ((with_reducible refine gate_dst (N := 16) rfl ?_); refine box_event ?hg (N := 16) ?hd (cs := #[.int .i64 0, .int .i64 0]) (t := 27) ?hr ?_; (case hd => rfl); (case hg => rfl); (case hr => first | (go_simp; done) | (go_simp; rfl)); intro ga hga w3 hbox hb; have BKa := Aside0.mk hbox; have HB3 := Aside0.mk hb; have GEa : Aside0 (wr.heap.size ≤ ga) := ⟨by rw [hga]; exact Nat.le_refl _⟩; clear hbox hb hga; have a0 := (blk_cell BKa.out 0).trans rfl; have a1 := (blk_cell BKa.out 1).trans rfl; have f0 := blk_frozen BKa.out 0; have f1 := blk_frozen BKa.out 1; have zh0 := (HB3.out.cell (World.block_lt_of_cell? _ _ zg0)).trans zg0; have zh1 := (HB3.out.cell (World.block_lt_of_cell? _ _ zg1)).trans zg1) | ((with_reducible refine gate_store (t := 27) (p := 16) rfl ?_); refine store_event (t := 27) (p := 16) (v := ?vow4) (w1 := ((w3.setCell ⟨ga, 0, none⟩ (.int .i64 g0)).setCell ⟨ga, 1, none⟩ (.int .i64 g1))) ?hg ?ho ?hn ?hr ?_; (case ho => rfl); (case hg => rfl); (case hn => rfl); (case hr => first | (go_simp; done) | (go_simp; rfl)); intro w4 hw; have n0_ : Aside0 (w4.heap[ga]? = some (.cells #[.int .i64 g0, .int .i64 g1] 27 (0, 0))) := ⟨by rw [hw]; exact blk_put (cs := #[.int .i64 g0, .int .i64 0]) (blk_put (cs := #[.int .i64 0, .int .i64 0]) BKa.out 0 _ rfl) 1 _ rfl⟩; have HB4 : Aside0 (Below wr.heap.size wr w4) := ⟨by rw [hw]; exact below_set (below_set HB3.out GEa.out) GEa.out⟩; clear a0 a1 f0 f1 BKa hw; have BKa := n0_; clear n0_; have a0 := (blk_cell BKa.out 0).trans rfl; have a1 := (blk_cell BKa.out 1).trans rfl; have f0 := blk_frozen BKa.out 0; have f1 := blk_frozen BKa.out 1; have y0 := (HB4.out.cell (World.block_lt_of_cell? _ _ HX0.out)).trans HX0.out; have y1 := (HB4.out.cell (World.block_lt_of_cell? _ _ HX1.out)).trans HX1.out; clear zg0 zg1 zh0 zh1; skip) | ((with_reducible refine gate_store (t := 27) (p := 16) rfl ?_); refine store_event (t := 27) (p := 16) (v := ?vow5) (w1 := ((w4.setCell ⟨ga, 0, none⟩ (.int .i64 sp.f0)).setCell ⟨ga, 1, none⟩ (.int .i64 sp.f1))) ?hg ?ho ?hn ?hr ?_; (case ho => rfl); (case hg => rfl); (case hn => rfl); (case hr => first | (go_simp; done) | (go_simp; rfl)); intro w5 hw; have n0_ : Aside0 (w5.heap[ga]? = some (.cells #[.int .i64 sp.f0, .int .i64 sp.f1] 27 (0, 0))) := ⟨by rw [hw]; exact blk_put (cs := #[.int .i64 sp.f0, .int .i64 g1]) (blk_put (cs := #[.int .i64 g0, .int .i64 g1]) BKa.out 0 _ rfl) 1 _ rfl⟩; have HB5 : Aside0 (Below wr.heap.size wr w5) := ⟨by rw [hw]; exact below_set (below_set HB4.out GEa.out) GEa.out⟩; clear a0 a1 f0 f1 BKa hw; have BKa := n0_; clear n0_; have a0 := (blk_cell BKa.out 0).trans rfl; have a1 := (blk_cell BKa.out 1).trans rfl; have f0 := blk_frozen BKa.out 0; have f1 := blk_frozen BKa.out 1; clear y0 y1; have hx5 := (HB5.out.cell (World.block_lt_of_cell? _ _ HX.out)).trans HX.out; skip) | ((with_reducible refine gate_builtin (b := .append) (xs := #[.tmp 57, .tmp 59]) rfl ?_); at_builtin; refine Kd.R_append (Kd.int .i64) (w0 := w) w.heap.size rfl (.tmp 57) (.tmp 59) 22 3 (.int .i64 0) 8 rfl Try.underlying22 info3 rfl (by decide) (by omega) u13 ((List.range i).map (eW n m D b ⟨g0, g1⟩ T false)) sp.f1 [.int .i64 sp.f1] (fun k_ => wq.heap.size ≤ k_) (fun _ => False) rfl rfl ?aP (fun _ hk => hk.elim) ?aF ?aO ?aB ?aS ?aL ?_; (case aP => exact rfl); (case aB => exact (HBr.out.trans (HB5.out.mono HBr.out.size))); (case aF => exact fun k_ hk => Nat.le_trans HK.out.1 (Nat.le_trans HB5.out.size hk)); (case aO => exact (Kd.R_below HO.out HB5.out)); (case aS => exact (Nat.le_trans HBr.out.size HB5.out.size)); (case aL => simp; have := HIN.out; have := HN.out; omega); intro v13n w9 ho hb hg hat; have HRow := Aside0.mk ho; have HK9 := Aside0.mk ((HK.out.below HB5.out).of_grown hg (fun k hk => .inr (HO.out.1 k hk))); have HB9 := Aside0.mk hb; have hx9 := (Go.Proofs.YteodlmgmmpkpoaaW.PrintWords.cell_kept HX.out ((Kept.of_below HB5.out (fun k => wq.heap.size ≤ k)).of_grown hg (fun k hk => .inl (HO.out.1 k hk))) HXne.out); clear ho hb hg hat hx5; skip))
              go_roundw
              case measure => have := HIN.out; simp [intOf]; omega
              case rel => exact ⟨i + 1, by go_num, by rw [HM.out, HSm.out, HEr.out], ⟨by have := HIN.out; omega⟩, ⟨by rw [rowE_succ, HEr.out]; exact HRow.out⟩, HK9, HB9⟩
            · skip
              have hlen := HLen.out
              obtain ⟨ad, e0, x0, x1⟩ := at_T27 HR1.out (i : Int) (by omega) (by omega)
              obtain ⟨sp, hsp⟩ : ∃ sp, b.getD i z27 = sp := ⟨_, rfl⟩
              rw [rdT27_nat, Int.toNat_natCast, hsp] at x0 x1
              have hspt : spanT b ⟨g0, g1⟩ i = sp := by unfold spanT; rw [if_pos h2, hsp]
              have HX0 := Aside0.mk x0
              have HX1 := Aside0.mk x1
              have j1 : (i : Int) < (b.length : Int) := by omega
              have d2 : decide ((i : Int) < 2) = true := decide_eq_true (by omega)
              subst e0
              clear x0 x1 hlen hsp
              have HEr : Aside0 (eW n m D b ⟨g0, g1⟩ T false i = sp.f0) := ⟨by rw [HEw.out, hspt, endT_low, if_neg hp]⟩
              have d3 : decide (p < 0) = false := decide_eq_false hp
              clear h2 hp hspt HEw
              go_wp2_with (first | ((with_reducible refine gate_dst (N := 16) rfl ?_); refine box_event ?hg (N := 16) ?hd (cs := #[.int .i64 0, .int .i64 0]) (t := 27) ?hr ?_; (case hd => rfl); (case hg => rfl); (case hr => first | (go_simp; done) | (go_simp; rfl)); intro ga hga w3 hbox hb; have BKa := Aside0.mk hbox; have HB3 := Aside0.mk hb; have GEa : Aside0 (wr.heap.size ≤ ga) := ⟨by rw [hga]; exact Nat.le_refl _⟩; clear hbox hb hga; have a0 := (blk_cell BKa.out 0).trans rfl; have a1 := (blk_cell BKa.out 1).trans rfl; have f0 := blk_frozen BKa.out 0; have f1 := blk_frozen BKa.out 1; have zh0 := (HB3.out.cell (World.block_lt_of_cell? _ _ zg0)).trans zg0; have zh1 := (HB3.out.cell (World.block_lt_of_cell? _ _ zg1)).trans zg1) | ((with_reducible refine gate_store (t := 27) (p := 16) rfl ?_); refine store_event (t := 27) (p := 16) (v := ?vow4) (w1 := ((w3.setCell ⟨ga, 0, none⟩ (.int .i64 g0)).setCell ⟨ga, 1, none⟩ (.int .i64 g1))) ?hg ?ho ?hn ?hr ?_; (case ho => rfl); (case hg => rfl); (case hn => rfl); (case hr => first | (go_simp; done) | (go_simp; rfl)); intro w4 hw; have n0_ : Aside0 (w4.heap[ga]? = some (.cells #[.int .i64 g0, .int .i64 g1] 27 (0, 0))) := ⟨by rw [hw]; exact blk_put (cs := #[.int .i64 g0, .int .i64 0]) (blk_put (cs := #[.int .i64 0, .int .i64 0]) BKa.out 0 _ rfl) 1 _ rfl⟩; have HB4 : Aside0 (Below wr.heap.size wr w4) := ⟨by rw [hw]; exact below_set (below_set HB3.out GEa.out) GEa.out⟩; clear a0 a1 f0 f1 BKa hw; have BKa := n0_; clear n0_; have a0 := (blk_cell BKa.out 0).trans rfl; have a1 := (blk_cell BKa.out 1).trans rfl; have f0 := blk_frozen BKa.out 0; have f1 := blk_frozen BKa.out 1; have y0 := (HB4.out.cell (World.block_lt_of_cell? _ _ HX0.out)).trans HX0.out; have y1 := (HB4.out.cell (World.block_lt_of_cell? _ _ HX1.out)).trans HX1.out; clear zg0 zg1 zh0 zh1; skip) | ((with_reducible refine gate_store (t := 27) (p := 16) rfl ?_); refine store_event (t := 27) (p := 16) (v := ?vow5) (w1 := ((w4.setCell ⟨ga, 0, none⟩ (.int .i64 sp.f0)).setCell ⟨ga, 1, none⟩ (.int .i64 sp.f1))) ?hg ?ho ?hn ?hr ?_; (case ho => rfl); (case hg => rfl); (case hn => rfl); (case hr => first | (go_simp; done) | (go_simp; rfl)); intro w5 hw; have n0_ : Aside0 (w5.heap[ga]? = some (.cells #[.int .i64 sp.f0, .int .i64 sp.f1] 27 (0, 0))) := ⟨by rw [hw]; exact blk_put (cs := #[.int .i64 sp.f0, .int .i64 g1]) (blk_put (cs := #[.int .i64 g0, .int .i64 g1]) BKa.out 0 _ rfl) 1 _ rfl⟩; have HB5 : Aside0 (Below wr.heap.size wr w5) := ⟨by rw [hw]; exact below_set (below_set HB4.out GEa.out) GEa.out⟩; clear a0 a1 f0 f1 BKa hw; have BKa := n0_; clear n0_; have a0 := (blk_cell BKa.out 0).trans rfl; have a1 := (blk_cell BKa.out 1).trans rfl; have f0 := blk_frozen BKa.out 0; have f1 := blk_frozen BKa.out 1; clear y0 y1; have hx5 := (HB5.out.cell (World.block_lt_of_cell? _ _ HX.out)).trans HX.out; skip) | ((with_reducible refine gate_builtin (b := .append) (xs := #[.tmp 57, .tmp 59]) rfl ?_); at_builtin; refine Kd.R_append (Kd.int .i64) (w0 := w) w.heap.size rfl (.tmp 57) (.tmp 59) 22 3 (.int .i64 0) 8 rfl Try.underlying22 info3 rfl (by decide) (by omega) u13 ((List.range i).map (eW n m D b ⟨g0, g1⟩ T false)) sp.f0 [.int .i64 sp.f0] (fun k_ => wq.heap.size ≤ k_) (fun _ => False) rfl rfl ?aP (fun _ hk => hk.elim) ?aF ?aO ?aB ?aS ?aL ?_; (case aP => exact rfl); (case aB => exact (HBr.out.trans (HB5.out.mono HBr.out.size))); (case aF => exact fun k_ hk => Nat.le_trans HK.out.1 (Nat.le_trans HB5.out.size hk)); (case aO => exact (Kd.R_below HO.out HB5.out)); (case aS => exact (Nat.le_trans HBr.out.size HB5.out.size)); (case aL => simp; have := HIN.out; have := HN.out; omega); intro v13n w9 ho hb hg hat; have HRow := Aside0.mk ho; have HK9 := Aside0.mk ((HK.out.below HB5.out).of_grown hg (fun k hk => .inr (HO.out.1 k hk))); have HB9 := Aside0.mk hb; have hx9 := (Go.Proofs.YteodlmgmmpkpoaaW.PrintWords.cell_kept HX.out ((Kept.of_below HB5.out (fun k => wq.heap.size ≤ k)).of_grown hg (fun k hk => .inl (HO.out.1 k hk))) HXne.out); clear ho hb hg hat hx5; skip))
              go_roundw
              case measure => have := HIN.out; simp [intOf]; omega
              case rel => exact ⟨i + 1, by go_num, by rw [HM.out, HSm.out, HEr.out], ⟨by have := HIN.out; omega⟩, ⟨by rw [rowE_succ, HEr.out]; exact HRow.out⟩, HK9, HB9⟩
        · cases high with
          | true =>
            by_cases hp : p > 0
            · skip
              obtain ⟨sp, hsp⟩ : ∃ sp : S27, ⟨g0, g1⟩ = sp := ⟨_, rfl⟩
              have hspt : spanT b ⟨g0, g1⟩ i = sp := by unfold spanT; rw [if_neg h2, hsp]
              have hs0 : g0 = sp.f0 := by rw [← hsp]
              have hs1 : g1 = sp.f1 := by rw [← hsp]
              have HSP : Aside0 (g0 = sp.f0 ∧ g1 = sp.f1) := ⟨hs0, hs1⟩
              have d2 : decide ((i : Int) < 2) = false := decide_eq_false (by omega)
              clear hsp hs0 hs1
              have HEr : Aside0 (eW n m D b ⟨g0, g1⟩ T true i = g1) := ⟨by rw [HEw.out, hspt, endT_high, if_pos hp, HSP.out.2]⟩
              have d3 : decide (p > 0) = true := decide_eq_true hp
              clear h2 hp hspt HEw
              go_wp2_with (first | ((with_reducible refine gate_dst (N := 16) rfl ?_); refine box_event ?hg (N := 16) ?hd (cs := #[.int .i64 0, .int .i64 0]) (t := 27) ?hr ?_; (case hd => rfl); (case hg => rfl); (case hr => first | (go_simp; done) | (go_simp; rfl)); intro ga hga w3 hbox hb; have BKa := Aside0.mk hbox; have HB3 := Aside0.mk hb; have GEa : Aside0 (wr.heap.size ≤ ga) := ⟨by rw [hga]; exact Nat.le_refl _⟩; clear hbox hb hga; have a0 := (blk_cell BKa.out 0).trans rfl; have a1 := (blk_cell BKa.out 1).trans rfl; have f0 := blk_frozen BKa.out 0; have f1 := blk_frozen BKa.out 1; have zh0 := (HB3.out.cell (World.block_lt_of_cell? _ _ zg0)).trans zg0; have zh1 := (HB3.out.cell (World.block_lt_of_cell? _ _ zg1)).trans zg1) | ((with_reducible refine gate_store (t := 27) (p := 16) rfl ?_); refine store_event (t := 27) (p := 16) (v := ?vow4) (w1 := ((w3.setCell ⟨ga, 0, none⟩ (.int .i64 g0)).setCell ⟨ga, 1, none⟩ (.int .i64 g1))) ?hg ?ho ?hn ?hr ?_; (case ho => rfl); (case hg => rfl); (case hn => rfl); (case hr => first | (go_simp; done) | (go_simp; rfl)); intro w4 hw; have n0_ : Aside0 (w4.heap[ga]? = some (.cells #[.int .i64 g0, .int .i64 g1] 27 (0, 0))) := ⟨by rw [hw]; exact blk_put (cs := #[.int .i64 g0, .int .i64 0]) (blk_put (cs := #[.int .i64 0, .int .i64 0]) BKa.out 0 _ rfl) 1 _ rfl⟩; have HB4 : Aside0 (Below wr.heap.size wr w4) := ⟨by rw [hw]; exact below_set (below_set HB3.out GEa.out) GEa.out⟩; clear a0 a1 f0 f1 BKa hw; have BKa := n0_; clear n0_; have a0 := (blk_cell BKa.out 0).trans rfl; have a1 := (blk_cell BKa.out 1).trans rfl; have f0 := blk_frozen BKa.out 0; have f1 := blk_frozen BKa.out 1; clear zg0 zg1 zh0 zh1; have hx5 := (HB4.out.cell (World.block_lt_of_cell? _ _ HX.out)).trans HX.out; skip) | ((with_reducible refine gate_builtin (b := .append) (xs := #[.tmp 57, .tmp 59]) rfl ?_); at_builtin; refine Kd.R_append (Kd.int .i64) (w0 := w) w.heap.size rfl (.tmp 57) (.tmp 59) 22 3 (.int .i64 0) 8 rfl Try.underlying22 info3 rfl (by decide) (by omega) u13 ((List.range i).map (eW n m D b ⟨g0, g1⟩ T true)) g1 [.int .i64 g1] (fun k_ => wq.heap.size ≤ k_) (fun _ => False) rfl rfl ?aP (fun _ hk => hk.elim) ?aF ?aO ?aB ?aS ?aL ?_; (case aP => exact rfl); (case aB => exact (HBr.out.trans (HB4.out.mono HBr.out.size))); (case aF => exact fun k_ hk => Nat.le_trans HK.out.1 (Nat.le_trans HB4.out.size hk)); (case aO => exact (Kd.R_below HO.out HB4.out)); (case aS => exact (Nat.le_trans HBr.out.size HB4.out.size)); (case aL => simp; have := HIN.out; have := HN.out; omega); intro v13n w9 ho hb hg hat; have HRow := Aside0.mk ho; have HK9 := Aside0.mk ((HK.out.below HB4.out).of_grown hg (fun k hk => .inr (HO.out.1 k hk))); have HB9 := Aside0.mk hb; have hx9 := (Go.Proofs.YteodlmgmmpkpoaaW.PrintWords.cell_kept HX.out ((Kept.of_below HB4.out (fun k => wq.heap.size ≤ k)).of_grown hg (fun k hk => .inl (HO.out.1 k hk))) HXne.out); clear ho hb hg hat hx5; skip))
              go_roundw
              case measure => have := HIN.out; simp [intOf]; omega
              case rel => exact ⟨i + 1, by go_num, by rw [HM.out, HSm.out, HEr.out], ⟨by have := HIN.out; omega⟩, ⟨by rw [rowE_succ, HEr.out]; exact HRow.out⟩, HK9, HB9⟩
            · skip
              obtain ⟨sp, hsp⟩ : ∃ sp : S27, ⟨g0, g1⟩ = sp := ⟨_, rfl⟩
              have hspt : spanT b ⟨g0, g1⟩ i = sp := by unfold spanT; rw [if_neg h2, hsp]
              have hs0 : g0 = sp.f0 := by rw [← hsp]
              have hs1 : g1 = sp.f1 := by rw [← hsp]
              have HSP : Aside0 (g0 = sp.f0 ∧ g1 = sp.f1) := ⟨hs0, hs1⟩
              have d2 : decide ((i : Int) < 2) = false := decide_eq_false (by omega)
              clear hsp hs0 hs1
              have HEr : Aside0 (eW n m D b ⟨g0, g1⟩ T true i = g0) := ⟨by rw [HEw.out, hspt, endT_high, if_neg hp, HSP.out.1]⟩
              have d3 : decide (p > 0) = false := decide_eq_false hp
              clear h2 hp hspt HEw
              go_wp2_with (first | ((with_reducible refine gate_dst (N := 16) rfl ?_); refine box_event ?hg (N := 16) ?hd (cs := #[.int .i64 0, .int .i64 0]) (t := 27) ?hr ?_; (case hd => rfl); (case hg => rfl); (case hr => first | (go_simp; done) | (go_simp; rfl)); intro ga hga w3 hbox hb; have BKa := Aside0.mk hbox; have HB3 := Aside0.mk hb; have GEa : Aside0 (wr.heap.size ≤ ga) := ⟨by rw [hga]; exact Nat.le_refl _⟩; clear hbox hb hga; have a0 := (blk_cell BKa.out 0).trans rfl; have a1 := (blk_cell BKa.out 1).trans rfl; have f0 := blk_frozen BKa.out 0; have f1 := blk_frozen BKa.out 1; have zh0 := (HB3.out.cell (World.block_lt_of_cell? _ _ zg0)).trans zg0; have zh1 := (HB3.out.cell (World.block_lt_of_cell? _ _ zg1)).trans zg1) | ((with_reducible refine gate_store (t := 27) (p := 16) rfl ?_); refine store_event (t := 27) (p := 16) (v := ?vow4) (w1 := ((w3.setCell ⟨ga, 0, none⟩ (.int .i64 g0)).setCell ⟨ga, 1, none⟩ (.int .i64 g1))) ?hg ?ho ?hn ?hr ?_; (case ho => rfl); (case hg => rfl); (case hn => rfl); (case hr => first | (go_simp; done) | (go_simp; rfl)); intro w4 hw; have n0_ : Aside0 (w4.heap[ga]? = some (.cells #[.int .i64 g0, .int .i64 g1] 27 (0, 0))) := ⟨by rw [hw]; exact blk_put (cs := #[.int .i64 g0, .int .i64 0]) (blk_put (cs := #[.int .i64 0, .int .i64 0]) BKa.out 0 _ rfl) 1 _ rfl⟩; have HB4 : Aside0 (Below wr.heap.size wr w4) := ⟨by rw [hw]; exact below_set (below_set HB3.out GEa.out) GEa.out⟩; clear a0 a1 f0 f1 BKa hw; have BKa := n0_; clear n0_; have a0 := (blk_cell BKa.out 0).trans rfl; have a1 := (blk_cell BKa.out 1).trans rfl; have f0 := blk_frozen BKa.out 0; have f1 := blk_frozen BKa.out 1; clear zg0 zg1 zh0 zh1; have hx5 := (HB4.out.cell (World.block_lt_of_cell? _ _ HX.out)).trans HX.out; skip) | ((with_reducible refine gate_builtin (b := .append) (xs := #[.tmp 57, .tmp 59]) rfl ?_); at_builtin; refine Kd.R_append (Kd.int .i64) (w0 := w) w.heap.size rfl (.tmp 57) (.tmp 59) 22 3 (.int .i64 0) 8 rfl Try.underlying22 info3 rfl (by decide) (by omega) u13 ((List.range i).map (eW n m D b ⟨g0, g1⟩ T true)) g0 [.int .i64 g0] (fun k_ => wq.heap.size ≤ k_) (fun _ => False) rfl rfl ?aP (fun _ hk => hk.elim) ?aF ?aO ?aB ?aS ?aL ?_; (case aP => exact rfl); (case aB => exact (HBr.out.trans (HB4.out.mono HBr.out.size))); (case aF => exact fun k_ hk => Nat.le_trans HK.out.1 (Nat.le_trans HB4.out.size hk)); (case aO => exact (Kd.R_below HO.out HB4.out)); (case aS => exact (Nat.le_trans HBr.out.size HB4.out.size)); (case aL => simp; have := HIN.out; have := HN.out; omega); intro v13n w9 ho hb hg hat; have HRow := Aside0.mk ho; have HK9 := Aside0.mk ((HK.out.below HB4.out).of_grown hg (fun k hk => .inr (HO.out.1 k hk))); have HB9 := Aside0.mk hb; have hx9 := (Go.Proofs.YteodlmgmmpkpoaaW.PrintWords.cell_kept HX.out ((Kept.of_below HB4.out (fun k => wq.heap.size ≤ k)).of_grown hg (fun k hk => .inl (HO.out.1 k hk))) HXne.out); clear ho hb hg hat hx5; skip))
              go_roundw
              case measure => have := HIN.out; simp [intOf]; omega
              case rel => exact ⟨i + 1, by go_num, by rw [HM.out, HSm.out, HEr.out], ⟨by have := HIN.out; omega⟩, ⟨by rw [rowE_succ, HEr.out]; exact HRow.out⟩, HK9, HB9⟩
          | false =>
            by_cases hp : p < 0
            · skip
              obtain ⟨sp, hsp⟩ : ∃ sp : S27, ⟨g0, g1⟩ = sp := ⟨_, rfl⟩
              have hspt : spanT b ⟨g0, g1⟩ i = sp := by unfold spanT; rw [if_neg h2, hsp]
              have hs0 : g0 = sp.f0 := by rw [← hsp]
              have hs1 : g1 = sp.f1 := by rw [← hsp]
              have HSP : Aside0 (g0 = sp.f0 ∧ g1 = sp.f1) := ⟨hs0, hs1⟩
              have d2 : decide ((i : Int) < 2) = false := decide_eq_false (by omega)
              clear hsp hs0 hs1
              have HEr : Aside0 (eW n m D b ⟨g0, g1⟩ T false i = g1) := ⟨by rw [HEw.out, hspt, endT_low, if_pos hp, HSP.out.2]⟩
              have d3 : decide (p < 0) = true := decide_eq_true hp
              clear h2 hp hspt HEw
              go_wp2_with (first | ((with_reducible refine gate_dst (N := 16) rfl ?_); refine box_event ?hg (N := 16) ?hd (cs := #[.int .i64 0, .int .i64 0]) (t := 27) ?hr ?_; (case hd => rfl); (case hg => rfl); (case hr => first | (go_simp; done) | (go_simp; rfl)); intro ga hga w3 hbox hb; have BKa := Aside0.mk hbox; have HB3 := Aside0.mk hb; have GEa : Aside0 (wr.heap.size ≤ ga) := ⟨by rw [hga]; exact Nat.le_refl _⟩; clear hbox hb hga; have a0 := (blk_cell BKa.out 0).trans rfl; have a1 := (blk_cell BKa.out 1).trans rfl; have f0 := blk_frozen BKa.out 0; have f1 := blk_frozen BKa.out 1; have zh0 := (HB3.out.cell (World.block_lt_of_cell? _ _ zg0)).trans zg0; have zh1 := (HB3.out.cell (World.block_lt_of_cell? _ _ zg1)).trans zg1) | ((with_reducible refine gate_store (t := 27) (p := 16) rfl ?_); refine store_event (t := 27) (p := 16) (v := ?vow4) (w1 := ((w3.setCell ⟨ga, 0, none⟩ (.int .i64 g0)).setCell ⟨ga, 1, none⟩ (.int .i64 g1))) ?hg ?ho ?hn ?hr ?_; (case ho => rfl); (case hg => rfl); (case hn => rfl); (case hr => first | (go_simp; done) | (go_simp; rfl)); intro w4 hw; have n0_ : Aside0 (w4.heap[ga]? = some (.cells #[.int .i64 g0, .int .i64 g1] 27 (0, 0))) := ⟨by rw [hw]; exact blk_put (cs := #[.int .i64 g0, .int .i64 0]) (blk_put (cs := #[.int .i64 0, .int .i64 0]) BKa.out 0 _ rfl) 1 _ rfl⟩; have HB4 : Aside0 (Below wr.heap.size wr w4) := ⟨by rw [hw]; exact below_set (below_set HB3.out GEa.out) GEa.out⟩; clear a0 a1 f0 f1 BKa hw; have BKa := n0_; clear n0_; have a0 := (blk_cell BKa.out 0).trans rfl; have a1 := (blk_cell BKa.out 1).trans rfl; have f0 := blk_frozen BKa.out 0; have f1 := blk_frozen BKa.out 1; clear zg0 zg1 zh0 zh1; have hx5 := (HB4.out.cell (World.block_lt_of_cell? _ _ HX.out)).trans HX.out; skip) | ((with_reducible refine gate_builtin (b := .append) (xs := #[.tmp 57, .tmp 59]) rfl ?_); at_builtin; refine Kd.R_append (Kd.int .i64) (w0 := w) w.heap.size rfl (.tmp 57) (.tmp 59) 22 3 (.int .i64 0) 8 rfl Try.underlying22 info3 rfl (by decide) (by omega) u13 ((List.range i).map (eW n m D b ⟨g0, g1⟩ T false)) g1 [.int .i64 g1] (fun k_ => wq.heap.size ≤ k_) (fun _ => False) rfl rfl ?aP (fun _ hk => hk.elim) ?aF ?aO ?aB ?aS ?aL ?_; (case aP => exact rfl); (case aB => exact (HBr.out.trans (HB4.out.mono HBr.out.size))); (case aF => exact fun k_ hk => Nat.le_trans HK.out.1 (Nat.le_trans HB4.out.size hk)); (case aO => exact (Kd.R_below HO.out HB4.out)); (case aS => exact (Nat.le_trans HBr.out.size HB4.out.size)); (case aL => simp; have := HIN.out; have := HN.out; omega); intro v13n w9 ho hb hg hat; have HRow := Aside0.mk ho; have HK9 := Aside0.mk ((HK.out.below HB4.out).of_grown hg (fun k hk => .inr (HO.out.1 k hk))); have HB9 := Aside0.mk hb; have hx9 := (Go.Proofs.YteodlmgmmpkpoaaW.PrintWords.cell_kept HX.out ((Kept.of_below HB4.out (fun k => wq.heap.size ≤ k)).of_grown hg (fun k hk => .inl (HO.out.1 k hk))) HXne.out); clear ho hb hg hat hx5; skip))
              go_roundw
              case measure => have := HIN.out; simp [intOf]; omega
              case rel => exact ⟨i + 1, by go_num, by rw [HM.out, HSm.out, HEr.out], ⟨by have := HIN.out; omega⟩, ⟨by rw [rowE_succ, HEr.out]; exact HRow.out⟩, HK9, HB9⟩
            · skip
              obtain ⟨sp, hsp⟩ : ∃ sp : S27, ⟨g0, g1⟩ = sp := ⟨_, rfl⟩
              have hspt : spanT b ⟨g0, g1⟩ i = sp := by unfold spanT; rw [if_neg h2, hsp]
              have hs0 : g0 = sp.f0 := by rw [← hsp]
              have hs1 : g1 = sp.f1 := by rw [← hsp]
              have HSP : Aside0 (g0 = sp.f0 ∧ g1 = sp.f1) := ⟨hs0, hs1⟩
              have d2 : decide ((i : Int) < 2) = false := decide_eq_false (by omega)
              clear hsp hs0 hs1
              have HEr : Aside0 (eW n m D b ⟨g0, g1⟩ T false i = g0) := ⟨by rw [HEw.out, hspt, endT_low, if_neg hp, HSP.out.1]⟩
              have d3 : decide (p < 0) = false := decide_eq_false hp
              clear h2 hp hspt HEw
              go_wp2_with (first | ((with_reducible refine gate_dst (N := 16) rfl ?_); refine box_event ?hg (N := 16) ?hd (cs := #[.int .i64 0, .int .i64 0]) (t := 27) ?hr ?_; (case hd => rfl); (case hg => rfl); (case hr => first | (go_simp; done) | (go_simp; rfl)); intro ga hga w3 hbox hb; have BKa := Aside0.mk hbox; have HB3 := Aside0.mk hb; have GEa : Aside0 (wr.heap.size ≤ ga) := ⟨by rw [hga]; exact Nat.le_refl _⟩; clear hbox hb hga; have a0 := (blk_cell BKa.out 0).trans rfl; have a1 := (blk_cell BKa.out 1).trans rfl; have f0 := blk_frozen BKa.out 0; have f1 := blk_frozen BKa.out 1; have zh0 := (HB3.out.cell (World.block_lt_of_cell? _ _ zg0)).trans zg0; have zh1 := (HB3.out.cell (World.block_lt_of_cell? _ _ zg1)).trans zg1) | ((with_reducible refine gate_store (t := 27) (p := 16) rfl ?_); refine store_event (t := 27) (p := 16) (v := ?vow4) (w1 := ((w3.setCell ⟨ga, 0, none⟩ (.int .i64 g0)).setCell ⟨ga, 1, none⟩ (.int .i64 g1))) ?hg ?ho ?hn ?hr ?_; (case ho => rfl); (case hg => rfl); (case hn => rfl); (case hr => first | (go_simp; done) | (go_simp; rfl)); intro w4 hw; have n0_ : Aside0 (w4.heap[ga]? = some (.cells #[.int .i64 g0, .int .i64 g1] 27 (0, 0))) := ⟨by rw [hw]; exact blk_put (cs := #[.int .i64 g0, .int .i64 0]) (blk_put (cs := #[.int .i64 0, .int .i64 0]) BKa.out 0 _ rfl) 1 _ rfl⟩; have HB4 : Aside0 (Below wr.heap.size wr w4) := ⟨by rw [hw]; exact below_set (below_set HB3.out GEa.out) GEa.out⟩; clear a0 a1 f0 f1 BKa hw; have BKa := n0_; clear n0_; have a0 := (blk_cell BKa.out 0).trans rfl; have a1 := (blk_cell BKa.out 1).trans rfl; have f0 := blk_frozen BKa.out 0; have f1 := blk_frozen BKa.out 1; clear zg0 zg1 zh0 zh1; have hx5 := (HB4.out.cell (World.block_lt_of_cell? _ _ HX.out)).trans HX.out; skip) | ((with_reducible refine gate_builtin (b := .append) (xs := #[.tmp 57, .tmp 59]) rfl ?_); at_builtin; refine Kd.R_append (Kd.int .i64) (w0 := w) w.heap.size rfl (.tmp 57) (.tmp 59) 22 3 (.int .i64 0) 8 rfl Try.underlying22 info3 rfl (by decide) (by omega) u13 ((List.range i).map (eW n m D b ⟨g0, g1⟩ T false)) g0 [.int .i64 g0] (fun k_ => wq.heap.size ≤ k_) (fun _ => False) rfl rfl ?aP (fun _ hk => hk.elim) ?aF ?aO ?aB ?aS ?aL ?_; (case aP => exact rfl); (case aB => exact (HBr.out.trans (HB4.out.mono HBr.out.size))); (case aF => exact fun k_ hk => Nat.le_trans HK.out.1 (Nat.le_trans HB4.out.size hk)); (case aO => exact (Kd.R_below HO.out HB4.out)); (case aS => exact (Nat.le_trans HBr.out.size HB4.out.size)); (case aL => simp; have := HIN.out; have := HN.out; omega); intro v13n w9 ho hb hg hat; have HRow := Aside0.mk ho; have HK9 := Aside0.mk ((HK.out.below HB4.out).of_grown hg (fun k hk => .inr (HO.out.1 k hk))); have HB9 := Aside0.mk hb; have hx9 := (Go.Proofs.YteodlmgmmpkpoaaW.PrintWords.cell_kept HX.out ((Kept.of_below HB4.out (fun k => wq.heap.size ≤ k)).of_grown hg (fun k hk => .inl (HO.out.1 k hk))) HXne.out); clear ho hb hg hat hx5; skip))
              go_roundw
              case measure => have := HIN.out; simp [intOf]; omega
              case rel => exact ⟨i + 1, by go_num, by rw [HM.out, HSm.out, HEr.out], ⟨by have := HIN.out; omega⟩, ⟨by rw [rowE_succ, HEr.out]; exact HRow.out⟩, HK9, HB9⟩
      · obtain rfl : i = T + 2 := by have := HI.out; omega
        have hdn : decide (T + 2 < T + 2) = false := decide_eq_false (by omega)
        have hdi : decide (((T + 2 : Nat) : Int) < (T : Int) + 2) = false := decide_eq_false (by omega)
        go_wp2
        refine bodyPost_ret (results_list (rs := [.tmp 10, .tmp 11]) rfl (by simp) (.tmp (.tmp .nil))) rfl ?_
        exact ⟨_, by rw [← HE2.out, HSm.out]; rfl, by rw [← HE1.out]; exact Kd.R_mono HO.out (fun _ _ => trivial), HBr.out⟩
  · rw [if_neg hc] at h
    cases h
end Go.Proofs.Yteodlmgmmpkpoaa.PS
end
section
namespace Go.Proofs.Yteodlmgmmpkpoaa.PS
open Go.RowKit Go.Proofs.YteodlmgmmpkpoaaW.PrintWords Go.Proofs.YteodlmgmmpkpoaaW.PrintLast Go.Proofs.YteodlmgmmpkpoaaW.PrintMore
attribute [local go_sem] max2_int min2_int max_two min_two max_three min_three max_four min_four   -- for this text's walks alone
set_option linter.unusedVariables false
set_option linter.unusedSimpArgs false
def swashplateref07_Reach.f (k : Nat) (a0_0 : Int) (a0_1 : Int) (a0_2 : Int) (l1 : List (S27)) (a2_0 : Int) (a2_1 : Int) (a3 : Int) : Option (Int × Int × Int × Int × Int) := (swashplateref07_CheckSets.f k a0_0 a0_1 a0_2 l1 a2_0 a2_1 a3).bind fun t356 => (if t356 = 0 then ((swashplateref07_ends.f k a0_0 a0_1 a0_2 l1 a2_0 a2_1 a3 false).bind fun bt357 => ((swashplateref07_ends.f k a0_0 a0_1 a0_2 l1 a2_0 a2_1 a3 true).bind fun bt361 => ((swashplateref07_power.f k a0_2 a3).bind fun t365 => ((swashplateref07_lowest.f k bt357.2 t365).bind fun bt366 => ((swashplateref07_lowest.f k bt361.2 t365).bind fun bt368 => (some (bt366.1, bt366.2, bt368.1, bt368.2, 0))))))) else (some (0, 0, 0, 0, t356)))
set_option maxHeartbeats 8000000 in
set_option maxRecDepth 100000 in
theorem swashplateref07_Reach.calls (k : Nat) (a0_0 : Int) (a0_1 : Int) (a0_2 : Int) (A1 : Option Addr) (c1 : Nat) (l1 : List (S27)) (a2_0 : Int) (a2_1 : Int) (a3 : Int) (r1 : Int) (r2 : Int) (r3 : Int) (r4 : Int) (r5 : Int) (w : World) (hr1 : Kd.C k27 w A1 l1.length l1) (hc1 : l1.length ≤ c1) (h : swashplateref07_Reach.f k a0_0 a0_1 a0_2 l1 a2_0 a2_1 a3 = some (r1, r2, r3, r4, r5)) :
  Calls Try.prog 82 #[.agg #[.int .i64 a0_0, .int .i64 a0_1, .int .i64 a0_2], .slice A1 l1.length c1, .agg #[.int .i64 a2_0, .int .i64 a2_1], .int .i64 a3] w fun e w' => e = .returned (.tuple #[.agg #[.int .i64 r1, .int .i64 r2], .agg #[.int .i64 r3, .int .i64 r4], .int .i64 r5]) ∧ Below w.heap.size w w' := by
 have hu105 := Try.underlying105
 have hu27 := Try.underlying27
 have hu28 := Try.underlying28
 have HR1 := Aside0.mk hr1
 have HC1 := Aside0.mk hc1
 clear hr1 hc1
 have HB := Aside0.mk (Below.refl w.heap.size w)
 have H : ((swashplateref07_CheckSets.f k a0_0 a0_1 a0_2 l1 a2_0 a2_1 a3).bind fun t356 => (if t356 = 0 then ((swashplateref07_ends.f k a0_0 a0_1 a0_2 l1 a2_0 a2_1 a3 false).bind fun bt357 => ((swashplateref07_ends.f k a0_0 a0_1 a0_2 l1 a2_0 a2_1 a3 true).bind fun bt361 => ((swashplateref07_power.f k a0_2 a3).bind fun t365 => ((swashplateref07_lowest.f k bt357.2 t365).bind fun bt366 => ((swashplateref07_lowest.f k bt361.2 t365).bind fun bt368 => (some (bt366.1, bt366.2, bt368.1, bt368.2, 0))))))) else (some (0, 0, 0, 0, t356)))) = some (r1, r2, r3, r4, r5) := h
 clear h
 replace H := Option.bind_eq_some_iff.mp H
 obtain ⟨t356, A50, H⟩ := H
 replace H : (if t356 = 0 then ((swashplateref07_ends.f k a0_0 a0_1 a0_2 l1 a2_0 a2_1 a3 false).bind fun bt357 => ((swashplateref07_ends.f k a0_0 a0_1 a0_2 l1 a2_0 a2_1 a3 true).bind fun bt361 => ((swashplateref07_power.f k a0_2 a3).bind fun t365 => ((swashplateref07_lowest.f k bt357.2 t365).bind fun bt366 => ((swashplateref07_lowest.f k bt361.2 t365).bind fun bt368 => (some (bt366.1, bt366.2, bt368.1, bt368.2, 0))))))) else (some (0, 0, 0, 0, t356))) = some (r1, r2, r3, r4, r5) := H
 have A5 := Aside0.mk A50
 clear A50
 by_cases c6 : t356 = 0
 ·
  rw [if_pos c6] at H
  have c6b0 : (t356 == 0) = true := beq_iff_eq.mpr c6
  have c6b1 : (t356 != 0) = false := bne_eq_false_iff_eq.mpr c6
  clear c6
  replace H := Option.bind_eq_some_iff.mp H
  obtain ⟨⟨t357, t360⟩, A70, H⟩ := H
  replace H : ((swashplateref07_ends.f k a0_0 a0_1 a0_2 l1 a2_0 a2_1 a3 true).bind fun bt361 => ((swashplateref07_power.f k a0_2 a3).bind fun t365 => ((swashplateref07_lowest.f k t360 t365).bind fun bt366 => ((swashplateref07_lowest.f k bt361.2 t365).bind fun bt368 => (some (bt366.1, bt366.2, bt368.1, bt368.2, 0)))))) = some (r1, r2, r3, r4, r5) := H
  have A7 := Aside0.mk A70
  clear A70
  replace H := Option.bind_eq_some_iff.mp H
  obtain ⟨⟨t361, t364⟩, A80, H⟩ := H
  replace H : ((swashplateref07_power.f k a0_2 a3).bind fun t365 => ((swashplateref07_lowest.f k t360 t365).bind fun bt366 => ((swashplateref07_lowest.f k t364 t365).bind fun bt368 => (some (bt366.1, bt366.2, bt368.1, bt368.2, 0))))) = some (r1, r2, r3, r4, r5) := H
  have A8 := Aside0.mk A80
  clear A80
  replace H := Option.bind_eq_some_iff.mp H
  obtain ⟨t365, A90, H⟩ := H
  replace H : ((swashplateref07_lowest.f k t360 t365).bind fun bt366 => ((swashplateref07_lowest.f k t364 t365).bind fun bt368 => (some (bt366.1, bt366.2, bt368.1, bt368.2, 0)))) = some (r1, r2, r3, r4, r5) := H
  have A9 := Aside0.mk A90
  clear A90
  replace H := Option.bind_eq_some_iff.mp H
  obtain ⟨⟨t366, t367⟩, A100, H⟩ := H
  replace H : ((swashplateref07_lowest.f k t364 t365).bind fun bt368 => (some (t366, t367, bt368.1, bt368.2, 0))) = some (r1, r2, r3, r4, r5) := H
  have A10 := Aside0.mk A100
  clear A100
  replace H := Option.bind_eq_some_iff.mp H
  obtain ⟨⟨t368, t369⟩, A110, H⟩ := H
  replace H : (some (t366, t367, t368, t369, 0)) = some (r1, r2, r3, r4, r5) := H
  have A11 := Aside0.mk A110
  clear A110
  simp only [Option.some.injEq, Prod.mk.injEq] at H
  obtain ⟨rfl, rfl, rfl, rfl, rfl⟩ := H
  go_enter Try.func82, Try.ntmps82
  go_wp2_with (first | ((with_reducible refine gate_dst (N := 4) rfl ?_); refine box_event ?hg (N := 4) ?hd (cs := #[.int .i64 a0_0, .int .i64 a0_1, .int .i64 a0_2]) (t := 105) ?hr ?_; (case hd => rfl); (case hg => rfl); (case hr => first | (go_simp; done) | (go_simp; rfl)); intro gb352 hg w12 hbox hb; have n0_ := Aside0.mk (below_step (bl_ HB.out) hb); have n1_ := Aside0.mk (hbox); have n2_ := Aside0.mk (szl_ hg HB.out); have n3_ := Aside0.mk (szl_ hg HB.out); clear HB; have HB := n0_; have BK352 := n1_; have GW352 := n2_; have GE352 := n3_; clear n0_ n1_ n2_ n3_ hb hbox hg) | ((with_reducible refine gate_dst (N := 6) rfl ?_); refine box_event ?hg (N := 6) ?hd (cs := #[.int .i64 a2_0, .int .i64 a2_1]) (t := 27) ?hr ?_; (case hd => rfl); (case hg => rfl); (case hr => first | (go_simp; done) | (go_simp; rfl)); intro gb353 hg w13 hbox hb; have n0_ := Aside0.mk (blk_below (bk_ BK352.out) hb); have n1_ := Aside0.mk (below_step (bl_ HB.out) hb); have n2_ := Aside0.mk (hbox); have n3_ := Aside0.mk (szl_ hg HB.out); have n4_ := Aside0.mk (szl_ hg HB.out); have n5_ := Aside0.mk (nel_ hg BK352.out); have n6_ := Aside0.mk (ner_ hg BK352.out); clear BK352 HB; have BK352 := n0_; have HB := n1_; have BK353 := n2_; have GW353 := n3_; have GE353 := n4_; have NB352_353 := n5_; have NB353_352 := n6_; clear n0_ n1_ n2_ n3_ n4_ n5_ n6_ hb hbox hg) | ((with_reducible refine gate_dst (N := 8) rfl ?_); refine box_event ?hg (N := 8) ?hd (cs := #[.int .i64 0, .int .i64 0]) (t := 28) ?hr ?_; (case hd => rfl); (case hg => rfl); (case hr => first | (go_simp; done) | (go_simp; rfl)); intro gb354 hg w14 hbox hb; have n0_ := Aside0.mk (blk_below (bk_ BK352.out) hb); have n1_ := Aside0.mk (blk_below (bk_ BK353.out) hb); have n2_ := Aside0.mk (below_step (bl_ HB.out) hb); have n3_ := Aside0.mk (hbox); have n4_ := Aside0.mk (szl_ hg HB.out); have n5_ := Aside0.mk (szl_ hg HB.out); have n6_ := Aside0.mk (nel_ hg BK352.out); have n7_ := Aside0.mk (ner_ hg BK352.out); have n8_ := Aside0.mk (nel_ hg BK353.out); have n9_ := Aside0.mk (ner_ hg BK353.out); clear BK352 BK353 HB; have BK352 := n0_; have BK353 := n1_; have HB := n2_; have BK354 := n3_; have GW354 := n4_; have GE354 := n5_; have NB352_354 := n6_; have NB354_352 := n7_; have NB353_354 := n8_; have NB354_353 := n9_; clear n0_ n1_ n2_ n3_ n4_ n5_ n6_ n7_ n8_ n9_ hb hbox hg) | ((with_reducible refine gate_dst (N := 9) rfl ?_); refine box_event ?hg (N := 9) ?hd (cs := #[.int .i64 0, .int .i64 0]) (t := 28) ?hr ?_; (case hd => rfl); (case hg => rfl); (case hr => first | (go_simp; done) | (go_simp; rfl)); intro gb355 hg w15 hbox hb; have n0_ := Aside0.mk (blk_below (bk_ BK352.out) hb); have n1_ := Aside0.mk (blk_below (bk_ BK353.out) hb); have n2_ := Aside0.mk (blk_below (bk_ BK354.out) hb); have n3_ := Aside0.mk (below_step (bl_ HB.out) hb); have n4_ := Aside0.mk (hbox); have n5_ := Aside0.mk (szl_ hg HB.out); have n6_ := Aside0.mk (szl_ hg HB.out); have n7_ := Aside0.mk (nel_ hg BK352.out); have n8_ := Aside0.mk (ner_ hg BK352.out); have n9_ := Aside0.mk (nel_ hg BK353.out); have n10_ := Aside0.mk (ner_ hg BK353.out); have n11_ := Aside0.mk (nel_ hg BK354.out); have n12_ := Aside0.mk (ner_ hg BK354.out); clear BK352 BK353 BK354 HB; have BK352 := n0_; have BK353 := n1_; have BK354 := n2_; have HB := n3_; have BK355 := n4_; have GW355 := n5_; have GE355 := n6_; have NB352_355 := n7_; have NB355_352 := n8_; have NB353_355 := n9_; have NB355_353 := n10_; have NB354_355 := n11_; have NB355_354 := n12_; clear n0_ n1_ n2_ n3_ n4_ n5_ n6_ n7_ n8_ n9_ n10_ n11_ n12_ hb hbox hg; have hnb16 := NB352_353.out; have hnc16 := NB353_352.out; have hnb17 := NB352_354.out; have hnc17 := NB354_352.out; have hnb18 := NB352_355.out; have hnc18 := NB355_352.out; have hcz19_0 : w15.cell? ⟨gb352, 0, none⟩ = some (.int .i64 a0_0) := (blk_cell BK352.out 0).trans rfl; have hcz19_1 : w15.cell? ⟨gb352, 1, none⟩ = some (.int .i64 a0_1) := (blk_cell BK352.out 1).trans rfl; have hcz19_2 : w15.cell? ⟨gb352, 2, none⟩ = some (.int .i64 a0_2) := (blk_cell BK352.out 2).trans rfl; have hfz19_0 := blk_frozen BK352.out 0; have hfz19_1 := blk_frozen BK352.out 1; have hfz19_2 := blk_frozen BK352.out 2; have hnb20 := NB353_354.out; have hnc20 := NB354_353.out; have hnb21 := NB353_355.out; have hnc21 := NB355_353.out; have hcz22_0 : w15.cell? ⟨gb353, 0, none⟩ = some (.int .i64 a2_0) := (blk_cell BK353.out 0).trans rfl; have hcz22_1 : w15.cell? ⟨gb353, 1, none⟩ = some (.int .i64 a2_1) := (blk_cell BK353.out 1).trans rfl; have hfz22_0 := blk_frozen BK353.out 0; have hfz22_1 := blk_frozen BK353.out 1) | ((with_reducible refine gate_callee (f := 145) rfl ?_); refine goesL_ (some 21) rfl rfl Try.func145 (by kernel_rfl) rfl #[.agg #[.int .i64 a0_0, .int .i64 a0_1, .int .i64 a0_2], .slice A1 l1.length c1, .agg #[.int .i64 a2_0, .int .i64 a2_1], .int .i64 a3] rfl (by (try simp only [List.map_toArray, List.map_cons, List.map_nil]); first | done | rfl | (simp only [List.length_drop, List.length_take]; rfl)) ?_; (with_reducible refine (swashplateref07_CheckSets.calls k a0_0 a0_1 a0_2 _ _ l1 a2_0 a2_1 a3 t356 _ ?side1 ?side2 A5.out).mono ?_); (case side1 => exact cr_ (Kd.C_below HR1.out HB.out)); (case side2 => exact HC1.out); rintro e w23 ⟨rfl, hb⟩; refine ⟨_, rfl, ?_⟩; have n0_ := Aside0.mk (blk_below (bk_ BK352.out) hb); have n1_ := Aside0.mk (blk_below (bk_ BK353.out) hb); have n2_ := Aside0.mk (blk_below (bk_ BK354.out) hb); have n3_ := Aside0.mk (blk_below (bk_ BK355.out) hb); have n4_ := Aside0.mk (below_step (bl_ HB.out) hb); clear BK352 BK353 BK354 BK355 HB; have BK352 := n0_; have BK353 := n1_; have BK354 := n2_; have BK355 := n3_; have HB := n4_; clear n0_ n1_ n2_ n3_ n4_; (try clear hb); (try clear hb2); (try clear hk); (try clear hi); have hcz24_0 : w23.cell? ⟨gb352, 0, none⟩ = some (.int .i64 a0_0) := (blk_cell BK352.out 0).trans rfl; have hcz24_1 : w23.cell? ⟨gb352, 1, none⟩ = some (.int .i64 a0_1) := (blk_cell BK352.out 1).trans rfl; have hcz24_2 : w23.cell? ⟨gb352, 2, none⟩ = some (.int .i64 a0_2) := (blk_cell BK352.out 2).trans rfl; have hfz24_0 := blk_frozen BK352.out 0; have hfz24_1 := blk_frozen BK352.out 1; have hfz24_2 := blk_frozen BK352.out 2; have hcz25_0 : w23.cell? ⟨gb353, 0, none⟩ = some (.int .i64 a2_0) := (blk_cell BK353.out 0).trans rfl; have hcz25_1 : w23.cell? ⟨gb353, 1, none⟩ = some (.int .i64 a2_1) := (blk_cell BK353.out 1).trans rfl; have hfz25_0 := blk_frozen BK353.out 0; have hfz25_1 := blk_frozen BK353.out 1) | ((with_reducible refine gate_callee (f := 146) rfl ?_); refine goesL_ (some 32) rfl rfl Try.func146 (by kernel_rfl) rfl #[.agg #[.int .i64 a0_0, .int .i64 a0_1, .int .i64 a0_2], .slice A1 l1.length c1, .agg #[.int .i64 a2_0, .int .i64 a2_1], .int .i64 a3, .bool false] rfl (by (try simp only [List.map_toArray, List.map_cons, List.map_nil]); first | done | rfl | (simp only [List.length_drop, List.length_take]; rfl)) ?_; (with_reducible refine (swashplateref07_ends.calls k a0_0 a0_1 a0_2 _ _ l1 a2_0 a2_1 a3 false t357 t360 _ ?side1 ?side2 A7.out).mono ?_); (case side1 => exact cr_ (Kd.C_below HR1.out HB.out)); (case side2 => exact HC1.out); rintro e w26 ⟨v358, rfl, ho0, hb⟩; refine ⟨_, rfl, ?_⟩; have n0_ := Aside0.mk (Kd.R_lower ho0 (below_size (bl_ HB.out))); have n1_ := Aside0.mk (blk_below (bk_ BK352.out) hb); have n2_ := Aside0.mk (blk_below (bk_ BK353.out) hb); have n3_ := Aside0.mk (blk_below (bk_ BK354.out) hb); have n4_ := Aside0.mk (blk_below (bk_ BK355.out) hb); have n5_ := Aside0.mk (below_step (bl_ HB.out) hb); clear BK352 BK353 BK354 BK355 HB; have HO359 := n0_; have BK352 := n1_; have BK353 := n2_; have BK354 := n3_; have BK355 := n4_; have HB := n5_; clear n0_ n1_ n2_ n3_ n4_ n5_; (try clear hb); (try clear hb2); (try clear hk); (try clear hi); (try clear ho0); have hcz27_0 : w26.cell? ⟨gb352, 0, none⟩ = some (.int .i64 a0_0) := (blk_cell BK352.out 0).trans rfl; have hcz27_1 : w26.cell? ⟨gb352, 1, none⟩ = some (.int .i64 a0_1) := (blk_cell BK352.out 1).trans rfl; have hcz27_2 : w26.cell? ⟨gb352, 2, none⟩ = some (.int .i64 a0_2) := (blk_cell BK352.out 2).trans rfl; have hfz27_0 := blk_frozen BK352.out 0; have hfz27_1 := blk_frozen BK352.out 1; have hfz27_2 := blk_frozen BK352.out 2; have hcz28_0 : w26.cell? ⟨gb353, 0, none⟩ = some (.int .i64 a2_0) := (blk_cell BK353.out 0).trans rfl; have hcz28_1 : w26.cell? ⟨gb353, 1, none⟩ = some (.int .i64 a2_1) := (blk_cell BK353.out 1).trans rfl; have hfz28_0 := blk_frozen BK353.out 0; have hfz28_1 := blk_frozen BK353.out 1) | ((with_reducible refine gate_callee (f := 146) rfl ?_); refine goesL_ (some 40) rfl rfl Try.func146 (by kernel_rfl) rfl #[.agg #[.int .i64 a0_0, .int .i64 a0_1, .int .i64 a0_2], .slice A1 l1.length c1, .agg #[.int .i64 a2_0, .int .i64 a2_1], .int .i64 a3, .bool true] rfl (by (try simp only [List.map_toArray, List.map_cons, List.map_nil]); first | done | rfl | (simp only [List.length_drop, List.length_take]; rfl)) ?_; (with_reducible refine (swashplateref07_ends.calls k a0_0 a0_1 a0_2 _ _ l1 a2_0 a2_1 a3 true t361 t364 _ ?side1 ?side2 A8.out).mono ?_); (case side1 => exact cr_ (Kd.C_below HR1.out HB.out)); (case side2 => exact HC1.out); rintro e w29 ⟨v362, rfl, ho0, hb⟩; refine ⟨_, rfl, ?_⟩; have n0_ := Aside0.mk (Kd.R_elder' (by (with_reducible repeat (first | apply Kd.R_alloc | apply Kd.R_drewN | apply Kd.R_drew)); exact HO359.out) (Kd.R_base ho0) hb); have n1_ := Aside0.mk (Kd.R_lower (Kd.R_new' ho0 (Kd.R_lt (by (with_reducible repeat (first | apply Kd.R_alloc | apply Kd.R_drewN | apply Kd.R_drew)); exact HO359.out))) (below_size (bl_ HB.out))); have n2_ := Aside0.mk (blk_below (bk_ BK352.out) hb); have n3_ := Aside0.mk (blk_below (bk_ BK353.out) hb); have n4_ := Aside0.mk (blk_below (bk_ BK354.out) hb); have n5_ := Aside0.mk (blk_below (bk_ BK355.out) hb); have n6_ := Aside0.mk (below_step (bl_ HB.out) hb); clear HO359 BK352 BK353 BK354 BK355 HB; have HO359 := n0_; have HO363 := n1_; have BK352 := n2_; have BK353 := n3_; have BK354 := n4_; have BK355 := n5_; have HB := n6_; clear n0_ n1_ n2_ n3_ n4_ n5_ n6_; (try clear hb); (try clear hb2); (try clear hk); (try clear hi); (try clear ho0); have hcz30_0 : w29.cell? ⟨gb352, 0, none⟩ = some (.int .i64 a0_0) := (blk_cell BK352.out 0).trans rfl; have hcz30_1 : w29.cell? ⟨gb352, 1, none⟩ = some (.int .i64 a0_1) := (blk_cell BK352.out 1).trans rfl; have hcz30_2 : w29.cell? ⟨gb352, 2, none⟩ = some (.int .i64 a0_2) := (blk_cell BK352.out 2).trans rfl; have hfz30_0 := blk_frozen BK352.out 0; have hfz30_1 := blk_frozen BK352.out 1; have hfz30_2 := blk_frozen BK352.out 2) | ((with_reducible refine gate_callee (f := 136) rfl ?_); refine goesL_ (some 46) rfl rfl Try.func136 (by kernel_rfl) rfl #[.int .i64 a0_2, .int .i64 a3] rfl (by (try simp only [List.map_toArray, List.map_cons, List.map_nil]); first | done | rfl | (simp only [List.length_drop, List.length_take]; rfl)) ?_; (with_reducible refine (swashplateref07_power.calls k a0_2 a3 t365 _ A9.out).mono ?_); rintro e w' ⟨rfl, ⟨nd, rfl⟩⟩; refine ⟨_, rfl, ?_⟩; (try (rw [drewN_self w29]; generalize hq_ : World.drewN w29 _ = w29; have n0_ : Aside0 (Kd.R (Kd.int .i64) 3 w29 w.heap.size (fun k_ => some k_ ≠ (v362 : Value).ownBlock) v358 t357) := ⟨by rw [← hq_]; exact (by (with_reducible repeat (first | apply Kd.R_alloc | apply Kd.R_drewN | apply Kd.R_drew)); exact Kd.R_mono HO359.out (fun _ hk => hk.2))⟩; have n1_ : Aside0 (Kd.R (Kd.int .i64) 3 w29 w.heap.size (fun k_ => some k_ ≠ (v358 : Value).ownBlock) v362 t361) := ⟨by rw [← hq_]; exact (by (with_reducible repeat (first | apply Kd.R_alloc | apply Kd.R_drewN | apply Kd.R_drew)); exact Kd.R_mono HO363.out (fun _ hk => hk.2))⟩; have n2_ : Aside0 (w29.heap[gb352]? = some (.cells #[.int .i64 a0_0, .int .i64 a0_1, .int .i64 a0_2] 105 (0, 0))) := ⟨by rw [← hq_]; exact (bk_ BK352.out)⟩; have n3_ : Aside0 (w29.heap[gb353]? = some (.cells #[.int .i64 a2_0, .int .i64 a2_1] 27 (0, 0))) := ⟨by rw [← hq_]; exact (bk_ BK353.out)⟩; have n4_ : Aside0 (w29.heap[gb354]? = some (.cells #[.int .i64 0, .int .i64 0] 28 (0, 0))) := ⟨by rw [← hq_]; exact (bk_ BK354.out)⟩; have n5_ : Aside0 (w29.heap[gb355]? = some (.cells #[.int .i64 0, .int .i64 0] 28 (0, 0))) := ⟨by rw [← hq_]; exact (bk_ BK355.out)⟩; have n6_ : Aside0 (Below w.heap.size w w29) := ⟨by rw [← hq_]; exact (bl_ HB.out)⟩; clear HO359 HO363 BK352 BK353 BK354 BK355 HB hq_; have HO359 := n0_; have HO363 := n1_; have BK352 := n2_; have BK353 := n3_; have BK354 := n4_; have BK355 := n5_; have HB := n6_; clear n0_ n1_ n2_ n3_ n4_ n5_ n6_))) | ((with_reducible refine gate_callee (f := 135) rfl ?_); refine goesL_ (some 49) rfl rfl Try.func135 (by kernel_rfl) rfl #[.int .i64 t360, .int .i64 t365] rfl (by (try simp only [List.map_toArray, List.map_cons, List.map_nil]); first | done | rfl | (simp only [List.length_drop, List.length_take]; rfl)) ?_; (with_reducible refine (swashplateref07_lowest.calls k t360 t365 t366 t367 _ A10.out).mono ?_); rintro e w31 ⟨rfl, hb⟩; refine ⟨_, rfl, ?_⟩; have n0_ := Aside0.mk (Kd.R_below (by (with_reducible repeat (first | apply Kd.R_alloc | apply Kd.R_drewN | apply Kd.R_drew)); exact HO359.out) hb); have n1_ := Aside0.mk (Kd.R_below (by (with_reducible repeat (first | apply Kd.R_alloc | apply Kd.R_drewN | apply Kd.R_drew)); exact HO363.out) hb); have n2_ := Aside0.mk (blk_below (bk_ BK352.out) hb); have n3_ := Aside0.mk (blk_below (bk_ BK353.out) hb); have n4_ := Aside0.mk (blk_below (bk_ BK354.out) hb); have n5_ := Aside0.mk (blk_below (bk_ BK355.out) hb); have n6_ := Aside0.mk (below_step (bl_ HB.out) hb); clear HO359 HO363 BK352 BK353 BK354 BK355 HB; have HO359 := n0_; have HO363 := n1_; have BK352 := n2_; have BK353 := n3_; have BK354 := n4_; have BK355 := n5_; have HB := n6_; clear n0_ n1_ n2_ n3_ n4_ n5_ n6_; (try clear hb); (try clear hb2); (try clear hk); (try clear hi)) | ((with_reducible refine gate_callee (f := 135) rfl ?_); refine goesL_ (some 52) rfl rfl Try.func135 (by kernel_rfl) rfl #[.int .i64 t364, .int .i64 t365] rfl (by (try simp only [List.map_toArray, List.map_cons, List.map_nil]); first | done | rfl | (simp only [List.length_drop, List.length_take]; rfl)) ?_; (with_reducible refine (swashplateref07_lowest.calls k t364 t365 t368 t369 _ A11.out).mono ?_); rintro e w32 ⟨rfl, hb⟩; refine ⟨_, rfl, ?_⟩; have n0_ := Aside0.mk (Kd.R_below (by (with_reducible repeat (first | apply Kd.R_alloc | apply Kd.R_drewN | apply Kd.R_drew)); exact HO359.out) hb); have n1_ := Aside0.mk (Kd.R_below (by (with_reducible repeat (first | apply Kd.R_alloc | apply Kd.R_drewN | apply Kd.R_drew)); exact HO363.out) hb); have n2_ := Aside0.mk (blk_below (bk_ BK352.out) hb); have n3_ := Aside0.mk (blk_below (bk_ BK353.out) hb); have n4_ := Aside0.mk (blk_below (bk_ BK354.out) hb); have n5_ := Aside0.mk (blk_below (bk_ BK355.out) hb); have n6_ := Aside0.mk (below_step (bl_ HB.out) hb); clear HO359 HO363 BK352 BK353 BK354 BK355 HB; have HO359 := n0_; have HO363 := n1_; have BK352 := n2_; have BK353 := n3_; have BK354 := n4_; have BK355 := n5_; have HB := n6_; clear n0_ n1_ n2_ n3_ n4_ n5_ n6_; (try clear hb); (try clear hb2); (try clear hk); (try clear hi); have hnb33 := NB354_355.out; have hnc33 := NB355_354.out; have hcz34_0 : w32.cell? ⟨gb354, 0, none⟩ = some (.int .i64 0) := (blk_cell BK354.out 0).trans rfl; have hcz34_1 : w32.cell? ⟨gb354, 1, none⟩ = some (.int .i64 0) := (blk_cell BK354.out 1).trans rfl; have hfz34_0 := blk_frozen BK354.out 0; have hfz34_1 := blk_frozen BK354.out 1; have hcz35_0 : w32.cell? ⟨gb355, 0, none⟩ = some (.int .i64 0) := (blk_cell BK355.out 0).trans rfl; have hcz35_1 : w32.cell? ⟨gb355, 1, none⟩ = some (.int .i64 0) := (blk_cell BK355.out 1).trans rfl; have hfz35_0 := blk_frozen BK355.out 0; have hfz35_1 := blk_frozen BK355.out 1))
  refine bodyPost_ret (results_list (rs := [.cell 8 28, .cell 9 28, .tmp 10]) rfl (by simp) (.cell gb354 28 #[.int .i64 t366, .int .i64 t367] (0, 0) _ rfl (by (with_reducible repeat (first | refine blk_drewN ?_ _ | refine blk_drew ?_ | refine blk_alloc ?_ _)); refine blk_far ?_ NB354_355.out _; (with_reducible repeat (first | refine blk_drewN ?_ _ | refine blk_drew ?_ | refine blk_alloc ?_ _)); refine blk_far ?_ NB354_355.out _; (with_reducible repeat (first | refine blk_drewN ?_ _ | refine blk_drew ?_ | refine blk_alloc ?_ _)); refine blk_put (cs := #[.int .i64 t366, .int .i64 0]) ?_ 1 _ rfl; (with_reducible repeat (first | refine blk_drewN ?_ _ | refine blk_drew ?_ | refine blk_alloc ?_ _)); refine blk_put (cs := #[.int .i64 0, .int .i64 0]) ?_ 0 _ rfl; (with_reducible repeat (first | refine blk_drewN ?_ _ | refine blk_drew ?_ | refine blk_alloc ?_ _)); exact BK354.out) Try.underlying28 rfl (by kernel_rfl) (.cell gb355 28 #[.int .i64 t368, .int .i64 t369] (0, 0) _ rfl (by (with_reducible repeat (first | refine blk_drewN ?_ _ | refine blk_drew ?_ | refine blk_alloc ?_ _)); refine blk_put (cs := #[.int .i64 t368, .int .i64 0]) ?_ 1 _ rfl; (with_reducible repeat (first | refine blk_drewN ?_ _ | refine blk_drew ?_ | refine blk_alloc ?_ _)); refine blk_put (cs := #[.int .i64 0, .int .i64 0]) ?_ 0 _ rfl; (with_reducible repeat (first | refine blk_drewN ?_ _ | refine blk_drew ?_ | refine blk_alloc ?_ _)); refine blk_far ?_ NB355_354.out _; (with_reducible repeat (first | refine blk_drewN ?_ _ | refine blk_drew ?_ | refine blk_alloc ?_ _)); refine blk_far ?_ NB355_354.out _; (with_reducible repeat (first | refine blk_drewN ?_ _ | refine blk_drew ?_ | refine blk_alloc ?_ _)); exact BK355.out) Try.underlying28 rfl (by kernel_rfl) (.tmp .nil)))) rfl ?_
  exact ⟨by first | rfl | (simp [errW_none, errW_some] <;> rfl) | (simp [*, errW_none, errW_some] <;> rfl), bl_ HB.out⟩
 ·
  rw [if_neg c6] at H
  have c6b0 : (t356 == 0) = false := beq_eq_false_iff_ne.mpr c6
  have c6b1 : (t356 != 0) = true := bne_iff_ne.mpr c6
  simp only [Option.some.injEq, Prod.mk.injEq] at H
  obtain ⟨rfl, rfl, rfl, rfl, rfl⟩ := H
  go_enter Try.func82, Try.ntmps82
  go_wp2_with (first | ((with_reducible refine gate_dst (N := 4) rfl ?_); refine box_event ?hg (N := 4) ?hd (cs := #[.int .i64 a0_0, .int .i64 a0_1, .int .i64 a0_2]) (t := 105) ?hr ?_; (case hd => rfl); (case hg => rfl); (case hr => first | (go_simp; done) | (go_simp; rfl)); intro gb352 hg w36 hbox hb; have n0_ := Aside0.mk (below_step (bl_ HB.out) hb); have n1_ := Aside0.mk (hbox); have n2_ := Aside0.mk (szl_ hg HB.out); have n3_ := Aside0.mk (szl_ hg HB.out); clear HB; have HB := n0_; have BK352 := n1_; have GW352 := n2_; have GE352 := n3_; clear n0_ n1_ n2_ n3_ hb hbox hg) | ((with_reducible refine gate_dst (N := 6) rfl ?_); refine box_event ?hg (N := 6) ?hd (cs := #[.int .i64 a2_0, .int .i64 a2_1]) (t := 27) ?hr ?_; (case hd => rfl); (case hg => rfl); (case hr => first | (go_simp; done) | (go_simp; rfl)); intro gb353 hg w37 hbox hb; have n0_ := Aside0.mk (blk_below (bk_ BK352.out) hb); have n1_ := Aside0.mk (below_step (bl_ HB.out) hb); have n2_ := Aside0.mk (hbox); have n3_ := Aside0.mk (szl_ hg HB.out); have n4_ := Aside0.mk (szl_ hg HB.out); have n5_ := Aside0.mk (nel_ hg BK352.out); have n6_ := Aside0.mk (ner_ hg BK352.out); clear BK352 HB; have BK352 := n0_; have HB := n1_; have BK353 := n2_; have GW353 := n3_; have GE353 := n4_; have NB352_353 := n5_; have NB353_352 := n6_; clear n0_ n1_ n2_ n3_ n4_ n5_ n6_ hb hbox hg) | ((with_reducible refine gate_dst (N := 8) rfl ?_); refine box_event ?hg (N := 8) ?hd (cs := #[.int .i64 0, .int .i64 0]) (t := 28) ?hr ?_; (case hd => rfl); (case hg => rfl); (case hr => first | (go_simp; done) | (go_simp; rfl)); intro gb354 hg w38 hbox hb; have n0_ := Aside0.mk (blk_below (bk_ BK352.out) hb); have n1_ := Aside0.mk (blk_below (bk_ BK353.out) hb); have n2_ := Aside0.mk (below_step (bl_ HB.out) hb); have n3_ := Aside0.mk (hbox); have n4_ := Aside0.mk (szl_ hg HB.out); have n5_ := Aside0.mk (szl_ hg HB.out); have n6_ := Aside0.mk (nel_ hg BK352.out); have n7_ := Aside0.mk (ner_ hg BK352.out); have n8_ := Aside0.mk (nel_ hg BK353.out); have n9_ := Aside0.mk (ner_ hg BK353.out); clear BK352 BK353 HB; have BK352 := n0_; have BK353 := n1_; have HB := n2_; have BK354 := n3_; have GW354 := n4_; have GE354 := n5_; have NB352_354 := n6_; have NB354_352 := n7_; have NB353_354 := n8_; have NB354_353 := n9_; clear n0_ n1_ n2_ n3_ n4_ n5_ n6_ n7_ n8_ n9_ hb hbox hg) | ((with_reducible refine gate_dst (N := 9) rfl ?_); refine box_event ?hg (N := 9) ?hd (cs := #[.int .i64 0, .int .i64 0]) (t := 28) ?hr ?_; (case hd => rfl); (case hg => rfl); (case hr => first | (go_simp; done) | (go_simp; rfl)); intro gb355 hg w39 hbox hb; have n0_ := Aside0.mk (blk_below (bk_ BK352.out) hb); have n1_ := Aside0.mk (blk_below (bk_ BK353.out) hb); have n2_ := Aside0.mk (blk_below (bk_ BK354.out) hb); have n3_ := Aside0.mk (below_step (bl_ HB.out) hb); have n4_ := Aside0.mk (hbox); have n5_ := Aside0.mk (szl_ hg HB.out); have n6_ := Aside0.mk (szl_ hg HB.out); have n7_ := Aside0.mk (nel_ hg BK352.out); have n8_ := Aside0.mk (ner_ hg BK352.out); have n9_ := Aside0.mk (nel_ hg BK353.out); have n10_ := Aside0.mk (ner_ hg BK353.out); have n11_ := Aside0.mk (nel_ hg BK354.out); have n12_ := Aside0.mk (ner_ hg BK354.out); clear BK352 BK353 BK354 HB; have BK352 := n0_; have BK353 := n1_; have BK354 := n2_; have HB := n3_; have BK355 := n4_; have GW355 := n5_; have GE355 := n6_; have NB352_355 := n7_; have NB355_352 := n8_; have NB353_355 := n9_; have NB355_353 := n10_; have NB354_355 := n11_; have NB355_354 := n12_; clear n0_ n1_ n2_ n3_ n4_ n5_ n6_ n7_ n8_ n9_ n10_ n11_ n12_ hb hbox hg; have hnb40 := NB352_353.out; have hnc40 := NB353_352.out; have hnb41 := NB352_354.out; have hnc41 := NB354_352.out; have hnb42 := NB352_355.out; have hnc42 := NB355_352.out; have hcz43_0 : w39.cell? ⟨gb352, 0, none⟩ = some (.int .i64 a0_0) := (blk_cell BK352.out 0).trans rfl; have hcz43_1 : w39.cell? ⟨gb352, 1, none⟩ = some (.int .i64 a0_1) := (blk_cell BK352.out 1).trans rfl; have hcz43_2 : w39.cell? ⟨gb352, 2, none⟩ = some (.int .i64 a0_2) := (blk_cell BK352.out 2).trans rfl; have hfz43_0 := blk_frozen BK352.out 0; have hfz43_1 := blk_frozen BK352.out 1; have hfz43_2 := blk_frozen BK352.out 2; have hnb44 := NB353_354.out; have hnc44 := NB354_353.out; have hnb45 := NB353_355.out; have hnc45 := NB355_353.out; have hcz46_0 : w39.cell? ⟨gb353, 0, none⟩ = some (.int .i64 a2_0) := (blk_cell BK353.out 0).trans rfl; have hcz46_1 : w39.cell? ⟨gb353, 1, none⟩ = some (.int .i64 a2_1) := (blk_cell BK353.out 1).trans rfl; have hfz46_0 := blk_frozen BK353.out 0; have hfz46_1 := blk_frozen BK353.out 1) | ((with_reducible refine gate_callee (f := 145) rfl ?_); refine goesL_ (some 21) rfl rfl Try.func145 (by kernel_rfl) rfl #[.agg #[.int .i64 a0_0, .int .i64 a0_1, .int .i64 a0_2], .slice A1 l1.length c1, .agg #[.int .i64 a2_0, .int .i64 a2_1], .int .i64 a3] rfl (by (try simp only [List.map_toArray, List.map_cons, List.map_nil]); first | done | rfl | (simp only [List.length_drop, List.length_take]; rfl)) ?_; (with_reducible refine (swashplateref07_CheckSets.calls k a0_0 a0_1 a0_2 _ _ l1 a2_0 a2_1 a3 t356 _ ?side1 ?side2 A5.out).mono ?_); (case side1 => exact cr_ (Kd.C_below HR1.out HB.out)); (case side2 => exact HC1.out); rintro e w47 ⟨rfl, hb⟩; refine ⟨_, rfl, ?_⟩; have n0_ := Aside0.mk (blk_below (bk_ BK352.out) hb); have n1_ := Aside0.mk (blk_below (bk_ BK353.out) hb); have n2_ := Aside0.mk (blk_below (bk_ BK354.out) hb); have n3_ := Aside0.mk (blk_below (bk_ BK355.out) hb); have n4_ := Aside0.mk (below_step (bl_ HB.out) hb); clear BK352 BK353 BK354 BK355 HB; have BK352 := n0_; have BK353 := n1_; have BK354 := n2_; have BK355 := n3_; have HB := n4_; clear n0_ n1_ n2_ n3_ n4_; (try clear hb); (try clear hb2); (try clear hk); (try clear hi); have hnb48 := NB354_355.out; have hnc48 := NB355_354.out; have hcz49_0 : w47.cell? ⟨gb354, 0, none⟩ = some (.int .i64 0) := (blk_cell BK354.out 0).trans rfl; have hcz49_1 : w47.cell? ⟨gb354, 1, none⟩ = some (.int .i64 0) := (blk_cell BK354.out 1).trans rfl; have hfz49_0 := blk_frozen BK354.out 0; have hfz49_1 := blk_frozen BK354.out 1; have hcz50_0 : w47.cell? ⟨gb355, 0, none⟩ = some (.int .i64 0) := (blk_cell BK355.out 0).trans rfl; have hcz50_1 : w47.cell? ⟨gb355, 1, none⟩ = some (.int .i64 0) := (blk_cell BK355.out 1).trans rfl; have hfz50_0 := blk_frozen BK355.out 0; have hfz50_1 := blk_frozen BK355.out 1))
  refine bodyPost_ret (results_list (rs := [.cell 8 28, .cell 9 28, .tmp 10]) rfl (by simp) (.cell gb354 28 #[.int .i64 0, .int .i64 0] (0, 0) _ rfl (by (with_reducible repeat (first | refine blk_drewN ?_ _ | refine blk_drew ?_ | refine blk_alloc ?_ _)); refine blk_far ?_ NB354_355.out _; (with_reducible repeat (first | refine blk_drewN ?_ _ | refine blk_drew ?_ | refine blk_alloc ?_ _)); refine blk_far ?_ NB354_355.out _; (with_reducible repeat (first | refine blk_drewN ?_ _ | refine blk_drew ?_ | refine blk_alloc ?_ _)); refine blk_put (cs := #[.int .i64 0, .int .i64 0]) ?_ 1 _ rfl; (with_reducible repeat (first | refine blk_drewN ?_ _ | refine blk_drew ?_ | refine blk_alloc ?_ _)); refine blk_put (cs := #[.int .i64 0, .int .i64 0]) ?_ 0 _ rfl; (with_reducible repeat (first | refine blk_drewN ?_ _ | refine blk_drew ?_ | refine blk_alloc ?_ _)); exact BK354.out) Try.underlying28 rfl (by kernel_rfl) (.cell gb355 28 #[.int .i64 0, .int .i64 0] (0, 0) _ rfl (by (with_reducible repeat (first | refine blk_drewN ?_ _ | refine blk_drew ?_ | refine blk_alloc ?_ _)); refine blk_put (cs := #[.int .i64 0, .int .i64 0]) ?_ 1 _ rfl; (with_reducible repeat (first | refine blk_drewN ?_ _ | refine blk_drew ?_ | refine blk_alloc ?_ _)); refine blk_put (cs := #[.int .i64 0, .int .i64 0]) ?_ 0 _ rfl; (with_reducible repeat (first | refine blk_drewN ?_ _ | refine blk_drew ?_ | refine blk_alloc ?_ _)); refine blk_far ?_ NB355_354.out _; (with_reducible repeat (first | refine blk_drewN ?_ _ | refine blk_drew ?_ | refine blk_alloc ?_ _)); refine blk_far ?_ NB355_354.out _; (with_reducible repeat (first | refine blk_drewN ?_ _ | refine blk_drew ?_ | refine blk_alloc ?_ _)); exact BK355.out) Try.underlying28 rfl (by kernel_rfl) (.tmp .nil)))) rfl ?_
  exact ⟨by first | rfl | (simp [errW_none, errW_some] <;> rfl) | (simp [*, errW_none, errW_some] <;> rfl), bl_ HB.out⟩
end Go.Proofs.Yteodlmgmmpkpoaa.PS
end
section
namespace Go.Proofs.Yteodlmgmmpkpoaa.PS
open Go.RowKit Go.Proofs.YteodlmgmmpkpoaaW.PrintWords Go.Proofs.YteodlmgmmpkpoaaW.PrintLast Go.Proofs.YteodlmgmmpkpoaaW.PrintMore
attribute [local go_sem] max2_int min2_int max_two min_two max_three min_three max_four min_four   -- for this text's walks alone
set_option linter.unusedVariables false
set_option linter.unusedSimpArgs false
def swashplateref07_Witness.f (k : Nat) (a0_0 : Int) (a0_1 : Int) (a0_2 : Int) (l1 : List (S27)) (a2_0 : Int) (a2_1 : Int) (a3 : Int) (a4 : Bool) : Option (Int × Int × List Int × Int) := (swashplateref07_CheckSets.f k a0_0 a0_1 a0_2 l1 a2_0 a2_1 a3).bind fun t395 => (if t395 = 0 then ((swashplateref07_ends.f k a0_0 a0_1 a0_2 l1 a2_0 a2_1 a3 a4).bind fun bt396 => (if 0 < (bt396.1.length : Int) then (if 1 < (bt396.1.length : Int) then (if 2 ≤ (bt396.1.length : Int) then (some (rd bt396.1 0, rd bt396.1 1, (bt396.1.drop (2 : Int).toNat), 0)) else (none)) else (none)) else (none))) else (some (0, 0, ([] : List Int), t395)))
def swashplateref07_Witness.T5 : Bool × List (List Nat × List Nat) := (true, [([], []), ([0], [0]), ([1], [1]), ([], []), ([3], [3]), ([4], [4]), ([2, 5], [2, 5]), ([], []), ([7], [7]), ([6, 0, 1, 2, 3, 4, 5, 6], [6]), ([8, 9, 0, 1, 2, 3, 4, 5, 6, 7, 8, 9], [8]), ([10, 0, 1, 2, 3, 4, 5, 6, 7, 8, 9, 10], [])])
def swashplateref07_Witness.B5 : List Nat := [0, 1, 3, 0, 8, 24, 63, 0, 128, 127, 1023, 2047]
theorem swashplateref07_Witness.tab5 : rtab .any (opsOf Try.f84 5) = swashplateref07_Witness.T5 := by kernel_rfl
theorem swashplateref07_Witness.bits5 : waitsOk swashplateref07_Witness.T5.2 swashplateref07_Witness.B5 = true := by kernel_rfl
set_option maxHeartbeats 8000000 in
set_option maxRecDepth 100000 in
theorem swashplateref07_Witness.calls (k : Nat) (a0_0 : Int) (a0_1 : Int) (a0_2 : Int) (A1 : Option Addr) (c1 : Nat) (l1 : List (S27)) (a2_0 : Int) (a2_1 : Int) (a3 : Int) (a4 : Bool) (r1 : Int) (r2 : Int) (r3 : List Int) (r4 : Int) (w : World) (hr1 : Kd.C k27 w A1 l1.length l1) (hc1 : l1.length ≤ c1) (h : swashplateref07_Witness.f k a0_0 a0_1 a0_2 l1 a2_0 a2_1 a3 a4 = some (r1, r2, r3, r4)) :
  Calls Try.prog 84 #[.agg #[.int .i64 a0_0, .int .i64 a0_1, .int .i64 a0_2], .slice A1 l1.length c1, .agg #[.int .i64 a2_0, .int .i64 a2_1], .int .i64 a3, .bool a4] w fun e w' => ∃ v2_ : Value, e = .returned (.tuple #[.agg #[.int .i64 r1, .int .i64 r2], v2_, .int .i64 r4]) ∧ Kd.Q (Kd.int .i64) 3 w' w.heap.size (fun _ => True) v2_ r3 ∧ Below w.heap.size w w' := by
 have hu105 := Try.underlying105
 have hu27 := Try.underlying27
 have hu28 := Try.underlying28
 have HR1 := Aside0.mk hr1
 have HC1 := Aside0.mk hc1
 clear hr1 hc1
 have HB := Aside0.mk (Below.refl w.heap.size w)
 have H : ((swashplateref07_CheckSets.f k a0_0 a0_1 a0_2 l1 a2_0 a2_1 a3).bind fun t395 => (if t395 = 0 then ((swashplateref07_ends.f k a0_0 a0_1 a0_2 l1 a2_0 a2_1 a3 a4).bind fun bt396 => (if 0 < (bt396.1.length : Int) then (if 1 < (bt396.1.length : Int) then (if 2 ≤ (bt396.1.length : Int) then (some (rd bt396.1 0, rd bt396.1 1, (bt396.1.drop (2 : Int).toNat), 0)) else (none)) else (none)) else (none))) else (some (0, 0, ([] : List Int), t395)))) = some (r1, r2, r3, r4) := h
 clear h
 replace H := Option.bind_eq_some_iff.mp H
 obtain ⟨t395, A60, H⟩ := H
 replace H : (if t395 = 0 then ((swashplateref07_ends.f k a0_0 a0_1 a0_2 l1 a2_0 a2_1 a3 a4).bind fun bt396 => (if 0 < (bt396.1.length : Int) then (if 1 < (bt396.1.length : Int) then (if 2 ≤ (bt396.1.length : Int) then (some (rd bt396.1 0, rd bt396.1 1, (bt396.1.drop (2 : Int).toNat), 0)) else (none)) else (none)) else (none))) else (some (0, 0, ([] : List Int), t395))) = some (r1, r2, r3, r4) := H
 have A6 := Aside0.mk A60
 clear A60
 by_cases c7 : t395 = 0
 ·
  rw [if_pos c7] at H
  have c7b0 : (t395 == 0) = true := beq_iff_eq.mpr c7
  have c7b1 : (t395 != 0) = false := bne_eq_false_iff_eq.mpr c7
  clear c7
  replace H := Option.bind_eq_some_iff.mp H
  obtain ⟨⟨t396, t399⟩, A80, H⟩ := H
  replace H : (if 0 < (t396.length : Int) then (if 1 < (t396.length : Int) then (if 2 ≤ (t396.length : Int) then (some (rd t396 0, rd t396 1, (t396.drop (2 : Int).toNat), 0)) else (none)) else (none)) else (none)) = some (r1, r2, r3, r4) := H
  have A8 := Aside0.mk A80
  clear A80
  by_cases c9 : 0 < (t396.length : Int)
  ·
   rw [if_pos c9] at H
   have c9b0 : decide (0 < (t396.length : Int)) = true := decide_eq_true c9
   have c9b1 : decide (0 < t396.length) = true := decide_eq_true (by omega)
   clear c9
   by_cases c10 : 1 < (t396.length : Int)
   ·
    rw [if_pos c10] at H
    have c10b0 : decide (1 < (t396.length : Int)) = true := decide_eq_true c10
    have c10b1 : decide (1 < t396.length) = true := decide_eq_true (by omega)
    clear c10
    by_cases c11 : 2 ≤ (t396.length : Int)
    ·
     rw [if_pos c11] at H
     have c11b0 := eq_true c11
     have c11b1 : decide (2 ≤ (t396.length : Int)) = true := decide_eq_true c11
     clear c11
     obtain ⟨y402, hy402⟩ : ∃ y_ : List Int, y_ = (t396.drop (2 : Int).toNat) := ⟨_, rfl⟩
     replace H : (some (rd t396 0, rd t396 1, y402, 0)) = some (r1, r2, r3, r4) := by first | (rw [hy402]; with_reducible exact H) | (have H2_ := (Option.bind_some _ _).symm.trans H; rw [hy402]; with_reducible exact H2_) | (have H2_ := (Option.bind_some _ _).symm.trans H; with_reducible exact H2_) | with_reducible exact H | (rw [hy402]; exact H) | exact H
     have Ny402 := Aside0.mk hy402
     clear hy402
     simp only [Option.some.injEq, Prod.mk.injEq] at H
     obtain ⟨rfl, rfl, rfl, rfl⟩ := H
     go_enter Try.func84, Try.ntmps84
     try go_wp2_with (first | ((with_reducible refine gate_dst (N := 5) rfl ?_); refine box_event ?hg (N := 5) ?hd (cs := #[.int .i64 a0_0, .int .i64 a0_1, .int .i64 a0_2]) (t := 105) ?hr ?_; (case hd => rfl); (case hg => rfl); (case hr => first | (go_simp; done) | (go_simp; rfl)); intro gb392 hg w12 hbox hb; have n0_ := Aside0.mk (below_step (bl_ HB.out) hb); have n1_ := Aside0.mk (hbox); have n2_ := Aside0.mk (szl_ hg HB.out); have n3_ := Aside0.mk (szl_ hg HB.out); clear HB; have HB := n0_; have BK392 := n1_; have GW392 := n2_; have GE392 := n3_; clear n0_ n1_ n2_ n3_ hb hbox hg) | ((with_reducible refine gate_dst (N := 7) rfl ?_); refine box_event ?hg (N := 7) ?hd (cs := #[.int .i64 a2_0, .int .i64 a2_1]) (t := 27) ?hr ?_; (case hd => rfl); (case hg => rfl); (case hr => first | (go_simp; done) | (go_simp; rfl)); intro gb393 hg w13 hbox hb; have n0_ := Aside0.mk (blk_below (bk_ BK392.out) hb); have n1_ := Aside0.mk (below_step (bl_ HB.out) hb); have n2_ := Aside0.mk (hbox); have n3_ := Aside0.mk (szl_ hg HB.out); have n4_ := Aside0.mk (szl_ hg HB.out); have n5_ := Aside0.mk (nel_ hg BK392.out); have n6_ := Aside0.mk (ner_ hg BK392.out); clear BK392 HB; have BK392 := n0_; have HB := n1_; have BK393 := n2_; have GW393 := n3_; have GE393 := n4_; have NB392_393 := n5_; have NB393_392 := n6_; clear n0_ n1_ n2_ n3_ n4_ n5_ n6_ hb hbox hg) | ((with_reducible refine gate_dst (N := 10) rfl ?_); refine box_event ?hg (N := 10) ?hd (cs := #[.int .i64 0, .int .i64 0]) (t := 28) ?hr ?_; (case hd => rfl); (case hg => rfl); (case hr => first | (go_simp; done) | (go_simp; rfl)); intro gb394 hg w14 hbox hb; have n0_ := Aside0.mk (blk_below (bk_ BK392.out) hb); have n1_ := Aside0.mk (blk_below (bk_ BK393.out) hb); have n2_ := Aside0.mk (below_step (bl_ HB.out) hb); have n3_ := Aside0.mk (hbox); have n4_ := Aside0.mk (szl_ hg HB.out); have n5_ := Aside0.mk (szl_ hg HB.out); have n6_ := Aside0.mk (nel_ hg BK392.out); have n7_ := Aside0.mk (ner_ hg BK392.out); have n8_ := Aside0.mk (nel_ hg BK393.out); have n9_ := Aside0.mk (ner_ hg BK393.out); clear BK392 BK393 HB; have BK392 := n0_; have BK393 := n1_; have HB := n2_; have BK394 := n3_; have GW394 := n4_; have GE394 := n5_; have NB392_394 := n6_; have NB394_392 := n7_; have NB393_394 := n8_; have NB394_393 := n9_; clear n0_ n1_ n2_ n3_ n4_ n5_ n6_ n7_ n8_ n9_ hb hbox hg; have hnb15 := NB392_393.out; have hnc15 := NB393_392.out; have hnb16 := NB392_394.out; have hnc16 := NB394_392.out; have hcz17_0 : w14.cell? ⟨gb392, 0, none⟩ = some (.int .i64 a0_0) := (blk_cell BK392.out 0).trans rfl; have hcz17_1 : w14.cell? ⟨gb392, 1, none⟩ = some (.int .i64 a0_1) := (blk_cell BK392.out 1).trans rfl; have hcz17_2 : w14.cell? ⟨gb392, 2, none⟩ = some (.int .i64 a0_2) := (blk_cell BK392.out 2).trans rfl; have hfz17_0 := blk_frozen BK392.out 0; have hfz17_1 := blk_frozen BK392.out 1; have hfz17_2 := blk_frozen BK392.out 2; have hnb18 := NB393_394.out; have hnc18 := NB394_393.out; have hcz19_0 : w14.cell? ⟨gb393, 0, none⟩ = some (.int .i64 a2_0) := (blk_cell BK393.out 0).trans rfl; have hcz19_1 : w14.cell? ⟨gb393, 1, none⟩ = some (.int .i64 a2_1) := (blk_cell BK393.out 1).trans rfl; have hfz19_0 := blk_frozen BK393.out 0; have hfz19_1 := blk_frozen BK393.out 1) | ((with_reducible refine gate_callee (f := 145) rfl ?_); refine goesL_ (some 20) rfl rfl Try.func145 (by kernel_rfl) rfl #[.agg #[.int .i64 a0_0, .int .i64 a0_1, .int .i64 a0_2], .slice A1 l1.length c1, .agg #[.int .i64 a2_0, .int .i64 a2_1], .int .i64 a3] rfl (by (try simp only [List.map_toArray, List.map_cons, List.map_nil]); first | done | rfl | (simp only [List.length_drop, List.length_take]; rfl)) ?_; (with_reducible refine (swashplateref07_CheckSets.calls k a0_0 a0_1 a0_2 _ _ l1 a2_0 a2_1 a3 t395 _ ?side1 ?side2 A6.out).mono ?_); (case side1 => exact cr_ (Kd.C_below HR1.out HB.out)); (case side2 => exact HC1.out); rintro e w20 ⟨rfl, hb⟩; refine ⟨_, rfl, ?_⟩; have n0_ := Aside0.mk (blk_below (bk_ BK392.out) hb); have n1_ := Aside0.mk (blk_below (bk_ BK393.out) hb); have n2_ := Aside0.mk (blk_below (bk_ BK394.out) hb); have n3_ := Aside0.mk (below_step (bl_ HB.out) hb); clear BK392 BK393 BK394 HB; have BK392 := n0_; have BK393 := n1_; have BK394 := n2_; have HB := n3_; clear n0_ n1_ n2_ n3_; (try clear hb); (try clear hb2); (try clear hk); (try clear hi); have hcz21_0 : w20.cell? ⟨gb392, 0, none⟩ = some (.int .i64 a0_0) := (blk_cell BK392.out 0).trans rfl; have hcz21_1 : w20.cell? ⟨gb392, 1, none⟩ = some (.int .i64 a0_1) := (blk_cell BK392.out 1).trans rfl; have hcz21_2 : w20.cell? ⟨gb392, 2, none⟩ = some (.int .i64 a0_2) := (blk_cell BK392.out 2).trans rfl; have hfz21_0 := blk_frozen BK392.out 0; have hfz21_1 := blk_frozen BK392.out 1; have hfz21_2 := blk_frozen BK392.out 2; have hcz22_0 : w20.cell? ⟨gb393, 0, none⟩ = some (.int .i64 a2_0) := (blk_cell BK393.out 0).trans rfl; have hcz22_1 : w20.cell? ⟨gb393, 1, none⟩ = some (.int .i64 a2_1) := (blk_cell BK393.out 1).trans rfl; have hfz22_0 := blk_frozen BK393.out 0; have hfz22_1 := blk_frozen BK393.out 1) | ((with_reducible refine gate_callee (f := 146) rfl ?_); refine goesL_ (some 31) rfl rfl Try.func146 (by kernel_rfl) rfl #[.agg #[.int .i64 a0_0, .int .i64 a0_1, .int .i64 a0_2], .slice A1 l1.length c1, .agg #[.int .i64 a2_0, .int .i64 a2_1], .int .i64 a3, .bool a4] rfl (by (try simp only [List.map_toArray, List.map_cons, List.map_nil]); first | done | rfl | (simp only [List.length_drop, List.length_take]; rfl)) ?_; (with_reducible refine (swashplateref07_ends.calls k a0_0 a0_1 a0_2 _ _ l1 a2_0 a2_1 a3 a4 t396 t399 _ ?side1 ?side2 A8.out).mono ?_); (case side1 => exact cr_ (Kd.C_below HR1.out HB.out)); (case side2 => exact HC1.out); rintro e w23 ⟨v397, rfl, ho0, hb⟩; refine ⟨_, rfl, ?_⟩; have n0_ := Aside0.mk (Kd.R_lower ho0 (below_size (bl_ HB.out))); have n1_ := Aside0.mk (blk_below (bk_ BK392.out) hb); have n2_ := Aside0.mk (blk_below (bk_ BK393.out) hb); have n3_ := Aside0.mk (blk_below (bk_ BK394.out) hb); have n4_ := Aside0.mk (below_step (bl_ HB.out) hb); clear BK392 BK393 BK394 HB; have HO398 := n0_; have BK392 := n1_; have BK393 := n2_; have BK394 := n3_; have HB := n4_; clear n0_ n1_ n2_ n3_ n4_; (try clear hb); (try clear hb2); (try clear hk); (try clear hi); (try clear ho0)))
     have n0_ := Aside0.mk (Kd.R_drew HO398.out)
     have n1_ := Aside0.mk (blk_drew BK392.out)
     have n2_ := Aside0.mk (blk_drew BK393.out)
     have n3_ := Aside0.mk (blk_drew BK394.out)
     have n4_ := Aside0.mk (below_drew1 HB.out)
     clear HO398 BK392 BK393 BK394 HB
     have HO398 := n0_
     have BK392 := n1_
     have BK393 := n2_
     have BK394 := n3_
     have HB := n4_
     clear n0_ n1_ n2_ n3_ n4_
     obtain ⟨Ao25, co25, eo25⟩ := Kd.R_slice HO398.out
     (first | subst eo25 | (injection eo25 with f1_ f2_ f3_; have f4_ := f1_.symm; have f5_ := f3_.symm; clear f1_ f2_ f3_; subst f4_; subst f5_))
     have p400 : 0 ≤ (0 : Int) := (by omega)
     have q400 : 0 < (t396.length : Int) := of_decide_eq_true (by first | (with_reducible assumption) | assumption)
     obtain ⟨ad400, e400, hx400_0⟩ := Kd.at_int (Kd.R_reads' HO398.out).2.2 0 p400 q400
     cases e400
     have qi400 : (0 < t396.length) = True := eq_true (by omega)
     (try rw [show ((0 : Int)).toNat = 0 from rfl] at hx400_0)
     (try rw [Addr.add_zero'] at hx400_0)
     replace p400 := eq_true p400
     replace q400 := eq_true q400
     have p401 : 0 ≤ (1 : Int) := (by omega)
     have q401 : 1 < (t396.length : Int) := of_decide_eq_true (by first | (with_reducible assumption) | assumption)
     obtain ⟨ad401, e401, hx401_0⟩ := Kd.at_int (Kd.R_reads' HO398.out).2.2 1 p401 q401
     obtain rfl : ad400 = ad401 := (by injection e401)
     (try simp only [show (1 : Int).toNat = 1 from rfl, Nat.reduceMul, Nat.reduceEqDiff, Go.Addr.add, ↓reduceIte] at hx401_0)
     have qi401 : (1 < t396.length) = True := eq_true (by omega)
     (try rw [show ((1 : Int)).toNat = 1 from rfl] at hx401_0)
     replace p401 := eq_true p401
     replace q401 := eq_true q401
     have q26 : (2 : Int) ≤ ((t396.length : Int) : Int) := of_decide_eq_true (by first | (with_reducible assumption) | assumption)
     obtain ⟨i026, hi026, _, hsz26, _⟩ := info_parts info3
     have hcut26 := cut_from (P := Try.prog) 22 3 .i64 Try.underlying22 hi026 1 hsz26 (some ad400) t396.length co25 2 (by omega) q26
     have hr26 := Kd.Q_drop (k := (2 : Int).toNat) (Kd.Q_of_R HO398.out) (by omega)
     obtain ⟨A26, hA26⟩ : ∃ A1, A1 = (if co25 = (2 : Int).toNat then (some ad400) else ((some ad400) : Option Addr).map (·.add ((2 : Int).toNat * 1))) := ⟨_, rfl⟩
     obtain ⟨c26, hc26⟩ : ∃ c1, c1 = co25 - (2 : Int).toNat := ⟨_, rfl⟩
     have hy26 : y402.length = t396.length - (2 : Int).toNat := (by rw [Ny402.out, List.length_drop])
     rw [← Ny402.out] at hr26
     rw [← hy26, ← hA26, ← hc26] at hcut26
     replace hr26 : Kd.Q (Kd.int .i64) 3 w23.drew w.heap.size (fun _ => True) (.slice A26 y402.length c26) y402 := (by rw [hA26, hc26, hy26]; exact hr26)
     have HE26 : Aside0 ((Value.slice A26 y402.length c26).ownBlock = (.slice (some ad400) t396.length co25 : Value).ownBlock) := ⟨by rw [hA26]; split <;> (cases ((some ad400) : Option Addr) <;> rfl)⟩
     clear hy26 hi026 hsz26 hA26 hc26
     have HO404 := Aside0.mk hr26
     clear hr26
     replace q26 := eq_true q26
     refine start_ (n := 12) (S := fun w' => w'.cell? ad400 = some (.int .i64 (rd t396 0)) ∧ w'.cell? ⟨ad400.block, ad400.off + 1, none⟩ = some (.int .i64 (rd t396 1))) (ds := []) #[false, false, false, false, false, false, false, false, false, false, false, false] (by kernel_rfl) rfl rfl ⟨hx400_0, hx401_0⟩ (fun hHeld => ?_); refine with_tabW swashplateref07_Witness.tab5 swashplateref07_Witness.bits5 (fun HT_ HW_ => ?_)
     generalize w23.drew = w24 at HO398 BK392 BK393 BK394 HB HO404 hx400_0 hx401_0 hHeld ⊢
     refine pure_ (i := 0) (N := some 34) (v := ?_) (a' := ?_) #[true, false, false, false, false, false, false, false, false, false, false, false] rfl rfl (any_of HT_.out (by kernel_rfl)) (fun _ _ _ h => h) (Or.inl ⟨by rfl, ?_⟩) ?_ ?_
     rotate_left
     ·
      intro w'
      go_simp
      with_reducible rfl
     rotate_left
     ·
      simp only [Act.put, List.setIfInBounds_toArray, List.set_cons_zero, List.set_cons_succ, i64_w, i32_w]
      rfl
     refine pure_ (i := 1) (N := some 35) (v := ?_) (a' := ?_) #[true, true, false, false, false, false, false, false, false, false, false, false] rfl rfl (any_of HT_.out (by kernel_rfl)) (fun _ _ _ h => h) (Or.inl ⟨by rfl, ?_⟩) ?_ ?_
     rotate_left
     ·
      intro w'
      go_simp
      with_reducible rfl
     rotate_left
     ·
      simp only [Act.put, List.setIfInBounds_toArray, List.set_cons_zero, List.set_cons_succ, i64_w, i32_w]
      rfl
     refine pure_ (i := 3) (N := some 37) (v := ?_) (a' := ?_) #[true, true, false, true, false, false, false, false, false, false, false, false] rfl rfl (any_of HT_.out (by kernel_rfl)) (fun _ _ _ h => h) (Or.inl ⟨by rfl, ?_⟩) ?_ ?_
     rotate_left
     ·
      intro w'
      go_simp
      with_reducible rfl
     rotate_left
     ·
      simp only [Act.put, List.setIfInBounds_toArray, List.set_cons_zero, List.set_cons_succ, i64_w, i32_w]
      rfl
     refine pure_ (i := 4) (N := some 38) (v := ?_) (a' := ?_) #[true, true, false, true, true, false, false, false, false, false, false, false] rfl rfl (any_of HT_.out (by kernel_rfl)) (fun _ _ _ h => h) (Or.inl ⟨by rfl, ?_⟩) ?_ ?_
     rotate_left
     ·
      intro w'
      go_simp
      with_reducible rfl
     rotate_left
     ·
      simp only [Act.put, List.setIfInBounds_toArray, List.set_cons_zero, List.set_cons_succ, i64_w, i32_w]
      rfl
     refine pure_ (i := 7) (N := some 41) (v := ?_) (a' := ?_) #[true, true, false, true, true, false, false, true, false, false, false, false] rfl rfl (any_of HT_.out (by kernel_rfl)) (fun _ _ _ h => h) (Or.inl ⟨by rfl, ?_⟩) ?_ ?_
     rotate_left
     ·
      intro w'
      go_simp
      with_reducible rfl
     rotate_left
     ·
      simp only [Act.put, List.setIfInBounds_toArray, List.set_cons_zero, List.set_cons_succ, i64_w, i32_w]
      rfl
     refine pure_ (i := 8) (N := some 42) (v := ?_) (a' := ?_) #[true, true, false, true, true, false, false, true, true, false, false, false] rfl rfl (any_of HT_.out (by kernel_rfl)) (fun _ _ _ h => h) (Or.inl ⟨by rfl, ?_⟩) ?_ ?_
     rotate_left
     ·
      intro w'
      go_simp
      with_reducible rfl
     rotate_left
     ·
      simp only [Act.put, List.setIfInBounds_toArray, List.set_cons_zero, List.set_cons_succ, i64_w, i32_w]
      rfl
     refine take_ (i := 2) (N := some 36) (v := ?_) (a' := ?_) #[true, true, true, true, true, false, false, true, true, false, false, false] rfl rfl (take_ofW HT_.out HW_.out (by kernel_rfl)) (fun _ _ _ h => h) (Or.inl ⟨by rfl, ?_⟩) hHeld ?_ ?_
     rotate_left
     ·
      rintro w' ⟨s0, s1⟩
      go_simp
      with_reducible rfl
     rotate_left
     ·
      simp only [Act.put, List.setIfInBounds_toArray, List.set_cons_zero, List.set_cons_succ, i64_w, i32_w]
      rfl
     refine take_ (i := 5) (N := some 39) (v := ?_) (a' := ?_) #[true, true, true, true, true, true, false, true, true, false, false, false] rfl rfl (take_ofW HT_.out HW_.out (by kernel_rfl)) (fun _ _ _ h => h) (Or.inl ⟨by rfl, ?_⟩) hHeld ?_ ?_
     rotate_left
     ·
      rintro w' ⟨s0, s1⟩
      go_simp
      with_reducible rfl
     rotate_left
     ·
      simp only [Act.put, List.setIfInBounds_toArray, List.set_cons_zero, List.set_cons_succ, i64_w, i32_w]
      rfl
     refine pure_ (i := 6) (N := some 40) (v := ?_) (a' := ?_) #[true, true, true, true, true, true, true, true, true, false, false, false] rfl rfl (any_of HT_.out (by kernel_rfl)) (fun _ _ _ h => h) (Or.inl ⟨by rfl, ?_⟩) ?_ ?_
     rotate_left
     ·
      intro w'
      go_simp
      with_reducible rfl
     rotate_left
     ·
      simp only [Act.put, List.setIfInBounds_toArray, List.set_cons_zero, List.set_cons_succ, i64_w, i32_w]
      rfl
     refine one_ (i := 9) (N := none) #[true, true, true, true, true, true, true, true, true, true, false, false] rfl rfl (one_of HT_.out (by kernel_rfl)) (by decide) (fun K hK => ?_)
     have hs27 : w24.cell? ⟨gb394, 0, none⟩ = some (.int .i64 0) := (blk_cell BK394.out 0).trans rfl
     have hfs27 := blk_frozen BK394.out 0
     have hns27_0 := NB392_394.out
     have hns27_1 := NB393_394.out
     have hms27_0 := NB394_392.out
     have hms27_1 := NB394_393.out
     have hs28 : w24.cell? ⟨gb394, 1, none⟩ = some (.int .i64 0) := (blk_cell BK394.out 1).trans rfl
     have hfs28 := blk_frozen BK394.out 1
     have hns28_0 := NB392_394.out
     have hns28_1 := NB393_394.out
     have hms28_0 := NB394_392.out
     have hms28_1 := NB394_393.out
     refine skip_ (w1 := ?_) (by rfl) rfl ?_ ?_
     rotate_left
     ·
      go_simp
      rfl
     refine hK.out _ _ ⟨((cell_far (p := ⟨gb394, _, none⟩) (by first | exact Kd.own_blk (Kd.R_ne HO398.out BK394.out (by decide)) | (rw [add_block]; exact Kd.own_blk (Kd.R_ne HO398.out BK394.out (by decide))) | (show (Addr.add _ _).block ≠ _; rw [add_block]; exact Kd.own_blk (Kd.R_ne HO398.out BK394.out (by decide))) | (dsimp only; exact Kd.own_blk (Kd.R_ne HO398.out BK394.out (by decide)))) _).trans (((cell_far (p := ⟨gb394, _, none⟩) (by first | exact Kd.own_blk (Kd.R_ne HO398.out BK394.out (by decide)) | (rw [add_block]; exact Kd.own_blk (Kd.R_ne HO398.out BK394.out (by decide))) | (show (Addr.add _ _).block ≠ _; rw [add_block]; exact Kd.own_blk (Kd.R_ne HO398.out BK394.out (by decide))) | (dsimp only; exact Kd.own_blk (Kd.R_ne HO398.out BK394.out (by decide)))) _).trans (hHeld.1)))), ((cell_far (p := ⟨gb394, _, none⟩) (by first | exact Kd.own_blk (Kd.R_ne HO398.out BK394.out (by decide)) | (rw [add_block]; exact Kd.own_blk (Kd.R_ne HO398.out BK394.out (by decide))) | (show (Addr.add _ _).block ≠ _; rw [add_block]; exact Kd.own_blk (Kd.R_ne HO398.out BK394.out (by decide))) | (dsimp only; exact Kd.own_blk (Kd.R_ne HO398.out BK394.out (by decide)))) _).trans (((cell_far (p := ⟨gb394, _, none⟩) (by first | exact Kd.own_blk (Kd.R_ne HO398.out BK394.out (by decide)) | (rw [add_block]; exact Kd.own_blk (Kd.R_ne HO398.out BK394.out (by decide))) | (show (Addr.add _ _).block ≠ _; rw [add_block]; exact Kd.own_blk (Kd.R_ne HO398.out BK394.out (by decide))) | (dsimp only; exact Kd.own_blk (Kd.R_ne HO398.out BK394.out (by decide)))) _).trans (hHeld.2))))⟩ (fun hHeld => ?_)
     clear hK K
     refine pure_ (i := 10) (N := some 11) (v := ?_) (a' := ?_) #[true, true, true, true, true, true, true, true, true, true, true, false] rfl rfl (any_of HT_.out (by kernel_rfl)) (fun _ _ _ h => h) (Or.inl ⟨by rfl, ?_⟩) ?_ ?_
     rotate_left
     ·
      intro w'
      go_simp
      with_reducible rfl
     rotate_left
     ·
      simp only [Act.put, List.setIfInBounds_toArray, List.set_cons_zero, List.set_cons_succ, i64_w, i32_w]
      rfl
     refine pure_ (i := 11) (N := some 12) (v := ?_) (a' := ?_) #[true, true, true, true, true, true, true, true, true, true, true, true] rfl rfl (any_of HT_.out (by kernel_rfl)) (fun _ _ _ h => h) (Or.inl ⟨by rfl, ?_⟩) ?_ ?_
     rotate_left
     ·
      intro w'
      go_simp
      with_reducible rfl
     rotate_left
     ·
      simp only [Act.put, List.setIfInBounds_toArray, List.set_cons_zero, List.set_cons_succ, i64_w, i32_w]
      rfl
     refine done_ (done_of HT_.out (by kernel_rfl)) ?_
     try go_wp2
     refine bodyPost_ret (results_ctt rfl _ _ gb394 28 #[.int .i64 (rd t396 0), .int .i64 (rd t396 1)] (0, 0) _ rfl (by (with_reducible repeat (first | refine blk_drewN ?_ _ | refine blk_drew ?_ | refine blk_alloc ?_ _)); refine blk_put (cs := #[.int .i64 (rd t396 0), .int .i64 0]) ?_ 1 _ rfl; (with_reducible repeat (first | refine blk_drewN ?_ _ | refine blk_drew ?_ | refine blk_alloc ?_ _)); refine blk_put (cs := #[.int .i64 0, .int .i64 0]) ?_ 0 _ rfl; (with_reducible repeat (first | refine blk_drewN ?_ _ | refine blk_drew ?_ | refine blk_alloc ?_ _)); exact BK394.out) Try.underlying28 rfl (by kernel_rfl)) rfl ?_
     exact ⟨_, by first | rfl | (simp [errW_none, errW_some] <;> rfl) | (simp [*, errW_none, errW_some] <;> rfl), by (with_reducible repeat (first | apply Kd.Q_alloc | apply Kd.Q_drewN | apply Kd.Q_drew)); exact Kd.Q_mono (Kd.Q_far (p := ⟨gb394, 1, none⟩) (Kd.Q_far (p := ⟨gb394, 0, none⟩) (Kd.Q_types HO404.out BK394.out (by decide)) (fun _ hk => hk.2) (.int .i64 (rd t396 0))) (fun _ hk => hk.2) (.int .i64 (rd t396 1))) (fun _ hk => trivial), bl_ HB.out⟩
    ·
     rw [if_neg c11] at H
     exact absurd H (by simp)
   ·
    rw [if_neg c10] at H
    exact absurd H (by simp)
  ·
   rw [if_neg c9] at H
   exact absurd H (by simp)
 ·
  rw [if_neg c7] at H
  have c7b0 : (t395 == 0) = false := beq_eq_false_iff_ne.mpr c7
  have c7b1 : (t395 != 0) = true := bne_iff_ne.mpr c7
  simp only [Option.some.injEq, Prod.mk.injEq] at H
  obtain ⟨rfl, rfl, rfl, rfl⟩ := H
  go_enter Try.func84, Try.ntmps84
  go_wp2_with (first | ((with_reducible refine gate_dst (N := 5) rfl ?_); refine box_event ?hg (N := 5) ?hd (cs := #[.int .i64 a0_0, .int .i64 a0_1, .int .i64 a0_2]) (t := 105) ?hr ?_; (case hd => rfl); (case hg => rfl); (case hr => first | (go_simp; done) | (go_simp; rfl)); intro gb392 hg w29 hbox hb; have n0_ := Aside0.mk (below_step (bl_ HB.out) hb); have n1_ := Aside0.mk (hbox); have n2_ := Aside0.mk (szl_ hg HB.out); have n3_ := Aside0.mk (szl_ hg HB.out); clear HB; have HB := n0_; have BK392 := n1_; have GW392 := n2_; have GE392 := n3_; clear n0_ n1_ n2_ n3_ hb hbox hg) | ((with_reducible refine gate_dst (N := 7) rfl ?_); refine box_event ?hg (N := 7) ?hd (cs := #[.int .i64 a2_0, .int .i64 a2_1]) (t := 27) ?hr ?_; (case hd => rfl); (case hg => rfl); (case hr => first | (go_simp; done) | (go_simp; rfl)); intro gb393 hg w30 hbox hb; have n0_ := Aside0.mk (blk_below (bk_ BK392.out) hb); have n1_ := Aside0.mk (below_step (bl_ HB.out) hb); have n2_ := Aside0.mk (hbox); have n3_ := Aside0.mk (szl_ hg HB.out); have n4_ := Aside0.mk (szl_ hg HB.out); have n5_ := Aside0.mk (nel_ hg BK392.out); have n6_ := Aside0.mk (ner_ hg BK392.out); clear BK392 HB; have BK392 := n0_; have HB := n1_; have BK393 := n2_; have GW393 := n3_; have GE393 := n4_; have NB392_393 := n5_; have NB393_392 := n6_; clear n0_ n1_ n2_ n3_ n4_ n5_ n6_ hb hbox hg) | ((with_reducible refine gate_dst (N := 10) rfl ?_); refine box_event ?hg (N := 10) ?hd (cs := #[.int .i64 0, .int .i64 0]) (t := 28) ?hr ?_; (case hd => rfl); (case hg => rfl); (case hr => first | (go_simp; done) | (go_simp; rfl)); intro gb394 hg w31 hbox hb; have n0_ := Aside0.mk (blk_below (bk_ BK392.out) hb); have n1_ := Aside0.mk (blk_below (bk_ BK393.out) hb); have n2_ := Aside0.mk (below_step (bl_ HB.out) hb); have n3_ := Aside0.mk (hbox); have n4_ := Aside0.mk (szl_ hg HB.out); have n5_ := Aside0.mk (szl_ hg HB.out); have n6_ := Aside0.mk (nel_ hg BK392.out); have n7_ := Aside0.mk (ner_ hg BK392.out); have n8_ := Aside0.mk (nel_ hg BK393.out); have n9_ := Aside0.mk (ner_ hg BK393.out); clear BK392 BK393 HB; have BK392 := n0_; have BK393 := n1_; have HB := n2_; have BK394 := n3_; have GW394 := n4_; have GE394 := n5_; have NB392_394 := n6_; have NB394_392 := n7_; have NB393_394 := n8_; have NB394_393 := n9_; clear n0_ n1_ n2_ n3_ n4_ n5_ n6_ n7_ n8_ n9_ hb hbox hg; have hnb32 := NB392_393.out; have hnc32 := NB393_392.out; have hnb33 := NB392_394.out; have hnc33 := NB394_392.out; have hcz34_0 : w31.cell? ⟨gb392, 0, none⟩ = some (.int .i64 a0_0) := (blk_cell BK392.out 0).trans rfl; have hcz34_1 : w31.cell? ⟨gb392, 1, none⟩ = some (.int .i64 a0_1) := (blk_cell BK392.out 1).trans rfl; have hcz34_2 : w31.cell? ⟨gb392, 2, none⟩ = some (.int .i64 a0_2) := (blk_cell BK392.out 2).trans rfl; have hfz34_0 := blk_frozen BK392.out 0; have hfz34_1 := blk_frozen BK392.out 1; have hfz34_2 := blk_frozen BK392.out 2; have hnb35 := NB393_394.out; have hnc35 := NB394_393.out; have hcz36_0 : w31.cell? ⟨gb393, 0, none⟩ = some (.int .i64 a2_0) := (blk_cell BK393.out 0).trans rfl; have hcz36_1 : w31.cell? ⟨gb393, 1, none⟩ = some (.int .i64 a2_1) := (blk_cell BK393.out 1).trans rfl; have hfz36_0 := blk_frozen BK393.out 0; have hfz36_1 := blk_frozen BK393.out 1) | ((with_reducible refine gate_callee (f := 145) rfl ?_); refine goesL_ (some 20) rfl rfl Try.func145 (by kernel_rfl) rfl #[.agg #[.int .i64 a0_0, .int .i64 a0_1, .int .i64 a0_2], .slice A1 l1.length c1, .agg #[.int .i64 a2_0, .int .i64 a2_1], .int .i64 a3] rfl (by (try simp only [List.map_toArray, List.map_cons, List.map_nil]); first | done | rfl | (simp only [List.length_drop, List.length_take]; rfl)) ?_; (with_reducible refine (swashplateref07_CheckSets.calls k a0_0 a0_1 a0_2 _ _ l1 a2_0 a2_1 a3 t395 _ ?side1 ?side2 A6.out).mono ?_); (case side1 => exact cr_ (Kd.C_below HR1.out HB.out)); (case side2 => exact HC1.out); rintro e w37 ⟨rfl, hb⟩; refine ⟨_, rfl, ?_⟩; have n0_ := Aside0.mk (blk_below (bk_ BK392.out) hb); have n1_ := Aside0.mk (blk_below (bk_ BK393.out) hb); have n2_ := Aside0.mk (blk_below (bk_ BK394.out) hb); have n3_ := Aside0.mk (below_step (bl_ HB.out) hb); clear BK392 BK393 BK394 HB; have BK392 := n0_; have BK393 := n1_; have BK394 := n2_; have HB := n3_; clear n0_ n1_ n2_ n3_; (try clear hb); (try clear hb2); (try clear hk); (try clear hi); have hcz38_0 : w37.cell? ⟨gb394, 0, none⟩ = some (.int .i64 0) := (blk_cell BK394.out 0).trans rfl; have hcz38_1 : w37.cell? ⟨gb394, 1, none⟩ = some (.int .i64 0) := (blk_cell BK394.out 1).trans rfl; have hfz38_0 := blk_frozen BK394.out 0; have hfz38_1 := blk_frozen BK394.out 1))
  refine bodyPost_ret (results_ctt rfl _ _ gb394 28 #[.int .i64 0, .int .i64 0] (0, 0) _ rfl (by (with_reducible repeat (first | refine blk_drewN ?_ _ | refine blk_drew ?_ | refine blk_alloc ?_ _)); refine blk_put (cs := #[.int .i64 0, .int .i64 0]) ?_ 1 _ rfl; (with_reducible repeat (first | refine blk_drewN ?_ _ | refine blk_drew ?_ | refine blk_alloc ?_ _)); refine blk_put (cs := #[.int .i64 0, .int .i64 0]) ?_ 0 _ rfl; (with_reducible repeat (first | refine blk_drewN ?_ _ | refine blk_drew ?_ | refine blk_alloc ?_ _)); exact BK394.out) Try.underlying28 rfl (by kernel_rfl)) rfl ?_
  exact ⟨_, by first | rfl | (simp [errW_none, errW_some] <;> rfl) | (simp [*, errW_none, errW_some] <;> rfl), Kd.Q_of_R (by first | exact Kd.R_nil _ _ _ _ _ | exact Kd.N_nil _ _ _ _ _ | exact Kd.V_nil _ _ _ _ _ | exact Kd.Q_nil _ _ _ _ _ | exact Kd.S_nil _ _ _ _ _), bl_ HB.out⟩
end Go.Proofs.Yteodlmgmmpkpoaa.PS
end
section
namespace Go.Proofs.Yteodlmgmmpkpoaa.PS
open Go.RowKit Go.Proofs.YteodlmgmmpkpoaaW.PrintWords Go.Proofs.YteodlmgmmpkpoaaW.PrintLast Go.Proofs.YteodlmgmmpkpoaaW.PrintMore
attribute [local go_sem] max2_int min2_int max_two min_two max_three min_three max_four min_four   -- for this text's walks alone
set_option linter.unusedVariables false
set_option linter.unusedSimpArgs false
def swashplatelaw07_sameInts.l0 : Nat → List Int → List Int → Int → Option (Bool)
 | 0, _, _, _ => none
 | k + 1, x0, x1, x5 => if x5 < (x0.length : Int) then (if 0 ≤ x5 then (if x5 < (x1.length : Int) then (if (rd x0 x5) = (rd x1 x5) then (swashplatelaw07_sameInts.l0 k x0 x1 (wrap64 (x5 + 1))) else (some false)) else (none)) else (none)) else (some true)
def swashplatelaw07_sameInts.f (k : Nat) (l0 : List Int) (l1 : List Int) : Option (Bool) := if (l0.length : Int) = (l1.length : Int) then (swashplatelaw07_sameInts.l0 k l0 l1 0) else (some false)
set_option maxHeartbeats 8000000 in
set_option maxRecDepth 100000 in
theorem swashplatelaw07_sameInts.calls (k : Nat) (A0 : Option Addr) (c0 : Nat) (l0 : List Int) (A1 : Option Addr) (c1 : Nat) (l1 : List Int) (r : Bool) (w : World) (hr0 : Kd.C (Kd.int .i64) w A0 l0.length l0) (hc0 : l0.length ≤ c0) (hr1 : Kd.C (Kd.int .i64) w A1 l1.length l1) (hc1 : l1.length ≤ c1) (h : swashplatelaw07_sameInts.f k l0 l1 = some r) :
  Calls Try.prog 85 #[.slice A0 l0.length c0, .slice A1 l1.length c1] w fun e w' => e = .returned (.bool r) ∧ Drawn0 w w' := by
 have HR0 := Aside0.mk hr0
 have HC0 := Aside0.mk hc0
 clear hr0 hc0
 have HR1 := Aside0.mk hr1
 have HC1 := Aside0.mk hc1
 clear hr1 hc1
 have H : (if (l0.length : Int) = (l1.length : Int) then (swashplatelaw07_sameInts.l0 k l0 l1 0) else (some false)) = some r := h
 clear h
 by_cases c3 : (l0.length : Int) = (l1.length : Int)
 ·
  rw [if_pos c3] at H
  have c3b0 : ((l0.length : Int) == (l1.length : Int)) = true := beq_iff_eq.mpr c3
  have c3b1 : ((l0.length : Int) != (l1.length : Int)) = false := bne_eq_false_iff_eq.mpr c3
  have c3b2 : (l0.length == l1.length) = true := by first | simpa using c3 | (simp at c3 ⊢; omega)
  clear c3
  have H' := Aside0.mk H
  clear H
  go_enter Try.func85, Try.ntmps85
  go_wp2
  go_loopg [5] k (fun kq v5 w' => ∃ (x5_1 : Int), v5 = .int .i64 x5_1 ∧ Aside0 (swashplatelaw07_sameInts.l0 kq l0 l1 x5_1 = some r) ∧ Aside0 (kq ≤ k) ∧ Drawn0 w w')
  case atStart => exact ⟨(0), (by first | rfl | (simp; done) | (simp [*]; done)), H', ⟨Nat.le_refl _⟩, by repeat (first | exact Drawn0.refl _ | apply Drawn0.step)⟩
  case round =>
   clear H'
   try clear c1
   try clear p2
   try clear c3
   try clear c3b0
   try clear c3b1
   try clear c3b2
   obtain ⟨x5_1, rfl, HA, HK1, ⟨m1, rfl⟩⟩ := hrel
   cases gk with
   | zero => exact absurd HA.out (by simp [swashplatelaw07_sameInts.l0])
   | succ k1 =>
    have H := HA.out
    clear HA
    simp only [swashplatelaw07_sameInts.l0] at H
    by_cases c4 : x5_1 < (l0.length : Int)
    ·
     rw [if_pos c4] at H
     have c4b0 : decide (x5_1 < (l0.length : Int)) = true := decide_eq_true c4
     clear c4
     by_cases c5 : 0 ≤ x5_1
     ·
      rw [if_pos c5] at H
      have c5b0 : decide (0 ≤ x5_1) = true := decide_eq_true c5
      clear c5
      by_cases c6 : x5_1 < (l1.length : Int)
      ·
       rw [if_pos c6] at H
       have c6b0 : decide (x5_1 < (l1.length : Int)) = true := decide_eq_true c6
       clear c6
       by_cases c7 : (rd l0 x5_1) = (rd l1 x5_1)
       ·
        rw [if_pos c7] at H
        have c7b0 : ((rd l0 x5_1) == (rd l1 x5_1)) = true := beq_iff_eq.mpr c7
        have c7b1 : ((rd l0 x5_1) != (rd l1 x5_1)) = false := bne_eq_false_iff_eq.mpr c7
        clear c7
        have H' := Aside0.mk H
        clear H
        have p405 : 0 ≤ (x5_1 : Int) := of_decide_eq_true (by first | (with_reducible assumption) | assumption)
        have q405 : x5_1 < (l0.length : Int) := of_decide_eq_true (by first | (with_reducible assumption) | assumption)
        obtain ⟨ad405, e405, hx405_0⟩ := Kd.at_int HR0.out x5_1 p405 q405
        cases e405
        replace p405 := eq_true p405
        replace q405 := eq_true q405
        have p406 : 0 ≤ (x5_1 : Int) := of_decide_eq_true (by first | (with_reducible assumption) | assumption)
        have q406 : x5_1 < (l1.length : Int) := of_decide_eq_true (by first | (with_reducible assumption) | assumption)
        obtain ⟨ad406, e406, hx406_0⟩ := Kd.at_int HR1.out x5_1 p406 q406
        cases e406
        replace p406 := eq_true p406
        replace q406 := eq_true q406
        go_wp2
        repeat (go_quiet (fail); try go_wp2)
        go_roundg k1
        case measure => have := HK1.out; omega
        case rel => exact ⟨(wrap64 (x5_1 + 1)), (by first | rfl | (simp; done) | (simp [*]; done)), H', ⟨by have := HK1.out; omega⟩, by repeat (first | exact Drawn0.refl _ | apply Drawn0.step)⟩
       ·
        rw [if_neg c7] at H
        have c7b0 : ((rd l0 x5_1) == (rd l1 x5_1)) = false := beq_eq_false_iff_ne.mpr c7
        have c7b1 : ((rd l0 x5_1) != (rd l1 x5_1)) = true := bne_iff_ne.mpr c7
        obtain rfl := Option.some.inj H
        have p405 : 0 ≤ (x5_1 : Int) := of_decide_eq_true (by first | (with_reducible assumption) | assumption)
        have q405 : x5_1 < (l0.length : Int) := of_decide_eq_true (by first | (with_reducible assumption) | assumption)
        obtain ⟨ad405, e405, hx405_0⟩ := Kd.at_int HR0.out x5_1 p405 q405
        cases e405
        replace p405 := eq_true p405
        replace q405 := eq_true q405
        have p406 : 0 ≤ (x5_1 : Int) := of_decide_eq_true (by first | (with_reducible assumption) | assumption)
        have q406 : x5_1 < (l1.length : Int) := of_decide_eq_true (by first | (with_reducible assumption) | assumption)
        obtain ⟨ad406, e406, hx406_0⟩ := Kd.at_int HR1.out x5_1 p406 q406
        cases e406
        replace p406 := eq_true p406
        replace q406 := eq_true q406
        go_wp2
        repeat (go_quiet (fail); try go_wp2)
        go_ret
        exact ⟨by first | rfl | (simp; done) | (simp [*]; done), by repeat (first | exact Drawn0.refl _ | apply Drawn0.step)⟩
      ·
       rw [if_neg c6] at H
       exact absurd H (by simp)
     ·
      rw [if_neg c5] at H
      exact absurd H (by simp)
    ·
     rw [if_neg c4] at H
     have c4b0 : decide (x5_1 < (l0.length : Int)) = false := decide_eq_false c4
     clear c4
     obtain rfl := Option.some.inj H
     go_wp2
     go_ret
     exact ⟨by first | rfl | (simp; done) | (simp [*]; done), by repeat (first | exact Drawn0.refl _ | apply Drawn0.step)⟩
 ·
  rw [if_neg c3] at H
  have c3b0 : ((l0.length : Int) == (l1.length : Int)) = false := beq_eq_false_iff_ne.mpr c3
  have c3b1 : ((l0.length : Int) != (l1.length : Int)) = true := bne_iff_ne.mpr c3
  have c3b2 : (l0.length == l1.length) = false := by first | simpa using c3 | (simp at c3 ⊢; omega)
  obtain rfl := Option.some.inj H
  go_enter Try.func85, Try.ntmps85
  go_wp2
  go_ret
  exact ⟨by first | rfl | (simp; done) | (simp [*]; done), by repeat (first | exact Drawn0.refl _ | apply Drawn0.step)⟩
end Go.Proofs.Yteodlmgmmpkpoaa.PS
end
