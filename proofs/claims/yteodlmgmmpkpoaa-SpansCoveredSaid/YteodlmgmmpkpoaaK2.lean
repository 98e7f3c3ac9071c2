-- Printed by a program of this session out of the translation (hybrid print) and out of hand proofs. Not trusted: Lean checks it.
import Derived.Below
import Derived.Deep.Draws
import Derived.Deep.AppendLies
import Derived.Maps.AppendAt
import Derived.OwnWalk
import Derived.Laws.BytesArg
import Derived.Laws.MakeOwn
import Derived.Laws.OwnMore
import Derived.Deep.OwnRows
import Derived.Tactics
import Derived.Lib.ConvBytes
import Derived.Laws.Slices
import Derived.WalkKit
import Derived.KernelRfl
import Derived.RowKit3
import Derived.Deep.LoopGhost
import Derived.Deep.QuietTactic
import Derived.BigQuiet
import Derived.WideLaws
import Derived.Deep.DeepCutAuto
import Derived.Deep.CutBlock
import Derived.Deep.RegionHeld3
import Derived.Laws.Rows
import Derived.Lib.AppendStr
import Derived.ArgAppend
import Derived.Laws.IdiomCopy
import Derived.RowKit
import Derived.OrdersHeld
import Derived.Laws.BitsLemmas
import Derived.Laws.StructEq
import Derived.Test.YteodlmgmmpkpoaaProg
import Derived.Laws.EntriesVeiled
import Derived.StillTailTactics
import Derived.RangeFuncNested
import Derived.RangeFuncBound
import Derived.RangeFuncCalls
import Derived.RangeFuncLeaves
import Derived.Shelf.Abstract
import Derived.OwnWalkIn
import Derived.TacticsInMore
import Derived.LoopNIn
import Derived.LoopIn
import Derived.RegionIn
import Derived.Deep.Strs
import Derived.Deep.Slices
import Derived.OpenShut
import Derived.ProofKit
import Derived.Carry
import Derived.Test.YteodlmgmmpkpoaaRows
import Derived.Test.YteodlmgmmpkpoaaK1
section
namespace Go.Proofs.Yteodlmgmmpkpoaa.PS
open Go.RowKit Go.Shelf Go.Proofs.YteodlmgmmpkpoaaW.PrintWords Go.Proofs.YteodlmgmmpkpoaaW.PrintLast Go.Proofs.YteodlmgmmpkpoaaW.PrintMore
set_option linter.unusedVariables false
set_option linter.unusedSimpArgs false
attribute [local go_sem] Oper.semAt_some
theorem corners_in (n : Nat) (A0 : Option Addr) (n0 c0 : Nat) (A1 : Option Addr) (n1 c1 : Nat) (A2 : Option Addr) (n2 c2 : Nat) (a0 a1 b0 b1 : Int) (w : World) :
    CallsIn Fence.wide n Try.prog 118 #[.agg #[.slice A0 n0 c0, .slice A1 n1 c1, .slice A2 n2 c2], .agg #[.int .i64 a0, .int .i64 a1], .agg #[.int .i64 b0, .int .i64 b1]] w fun e w' =>
      e = .returned (.func (.func 170) #[] #[.pointer (some ⟨w.heap.size, 0, none⟩), .pointer (some ⟨w.heap.size + 1, 0, none⟩), .pointer (some ⟨w.heap.size + 1 + 1, 0, none⟩)]) ∧
      w' = ((w.alloc (.cells #[.slice A0 n0 c0, .slice A1 n1 c1, .slice A2 n2 c2] 25)).alloc (.cells #[.int .i64 a0, .int .i64 a1] 27)).alloc (.cells #[.int .i64 b0, .int .i64 b1] 27) := by
  refine callsIn_of_wp Try.func118 rfl trivial ?_ rfl
  simp only [Try.ntmps118, List.size_toArray, List.length_cons, List.length_nil, Nat.reduceAdd, Nat.reduceSub, Array.replicate_succ, Array.replicate_zero, List.push_toArray, List.append_toArray, List.nil_append, List.cons_append]
  gi_wp2
  go_ret
  exact ⟨rfl, rfl⟩
def vals (pre : List GP) : List Pt := pre.map fun p => p.1
def cellsP (p : Pt) : Array Value := #[.int .i64 p.x, .int .i64 p.y, .int .i64 p.n, .int .i64 p.d]
def ExtI (b6 b7 b8 : Nat) (pre : List GP) (W : World) : Prop :=
  W.heap[b6]? = some (.cells (cellsP (leastP (vals pre))) 133 (0, 0)) ∧ W.heap[b7]? = some (.cells (cellsP (mostP (vals pre))) 133 (0, 0)) ∧ W.heap[b8]? = some (.cells #[.bool (!pre.isEmpty)] 4 (0, 0))
def put4 (W : World) (b : Nat) (L : Pt) : World := (((W.setCell ⟨b, 0, none⟩ (.int .i64 L.x)).setCell ⟨b, 1, none⟩ (.int .i64 L.y)).setCell ⟨b, 2, none⟩ (.int .i64 L.n)).setCell ⟨b, 3, none⟩ (.int .i64 L.d)
theorem put4_same {W : World} {b : Nat} {Q : Pt} (L : Pt) (h : W.heap[b]? = some (.cells (cellsP Q) 133 (0, 0))) : (put4 W b L).heap[b]? = some (.cells (cellsP L) 133 (0, 0)) :=
  blk_put (blk_put (blk_put (blk_put h 0 _ rfl) 1 _ rfl) 2 _ rfl) 3 _ rfl
theorem put4_far {W : World} {b g : Nat} {t : TypeId} {cs : Array Value} (L : Pt) (h : W.heap[g]? = some (.cells cs t (0, 0))) (hg : g ≠ b) : (put4 W b L).heap[g]? = some (.cells cs t (0, 0)) :=
  blk_far (blk_far (blk_far (blk_far h hg _) hg _) hg _) hg _
theorem put4_keeps (W : World) (b : Nat) (L : Pt) : KeepsOthers W (put4 W b L) :=
  (((KeepsOthers.setCell _ _ _).trans (KeepsOthers.setCell _ _ _)).trans (KeepsOthers.setCell _ _ _)).trans (KeepsOthers.setCell _ _ _)
theorem put4_below {w W : World} {b : Nat} (L : Pt) (h : Below w.heap.size w W) (hb : w.heap.size ≤ b) : Below w.heap.size w (put4 W b L) :=
  below_set (below_set (below_set (below_set h hb) hb) hb) hb
theorem put4_kp {n : Nat} {S : Nat → Prop} {W0 W : World} {b : Nat} (L : Pt) (h : KpS n S W0 W) (hn : n ≤ b) (hS : S b) : KpS n S W0 (put4 W b L) :=
  ⟨(((h.1.setCell hn _).setCell hn _).setCell hn _).setCell hn _, fun k c t f hk hs => by
    have hkb : k ≠ b := fun e => hs (e ▸ hS)
    have := h.2 k c t f hk hs
    unfold put4
    rw [Below.heap_setCell _ _ _ _ hkb, Below.heap_setCell _ _ _ _ hkb, Below.heap_setCell _ _ _ _ hkb, Below.heap_setCell _ _ _ _ hkb]
    exact this⟩
theorem kothers_below {W W' : World} (h : Below W.heap.size W W') : KeepsOthers W W' := KeepsOthers.of_grownBy (grown_of_below h) (fun _ _ e => by cases e)
theorem KpS.put8 {n : Nat} {S : Nat → Prop} {W0 W : World} {b : Nat} {v : Value} (h : KpS n S W0 W) (hn : n ≤ b) (hS : S b) : KpS n S W0 (W.setCell ⟨b, 0, none⟩ v) :=
  ⟨h.1.setCell hn _, fun k c t f hk hs => (Below.heap_setCell _ _ _ _ (fun e : k = b => hs (e ▸ hS))).trans (h.2 k c t f hk hs)⟩
theorem cells_own {β : Type} (b : Nat) (t : TypeId) (f : β → Array Value) : Own (fun s W => W.heap[b]? = some (.cells (f s) t (0, 0))) := fun s X Y row hs hg hrow =>
  blk_grown hs hg (fun e => by obtain ⟨o, ho, hc⟩ := hrow b e.symm; rw [hs] at ho; cases ho; cases hc)
theorem least_snoc (pre : List GP) (x : GP) (h : pre ≠ []) : leastP (vals (pre ++ [x])) = if ltP x.1 (leastP (vals pre)) then x.1 else leastP (vals pre) := by
  cases pre with
  | nil => exact absurd rfl h
  | cons a l => simp [vals, leastP]
theorem most_snoc (pre : List GP) (x : GP) (h : pre ≠ []) : mostP (vals (pre ++ [x])) = if ltP (mostP (vals pre)) x.1 then x.1 else mostP (vals pre) := by
  cases pre with
  | nil => exact absurd rfl h
  | cons a l => simp [vals, mostP]
theorem fold_good (l : List GP) (f : Pt → Pt → Bool) : ∀ a, GoodP a → GoodP ((vals l).foldl (fun m q => if f m q then q else m) a) := by
  induction l with
  | nil => intro a h; exact h
  | cons b l ih =>
    intro a h
    refine ih _ ?_
    dsimp only
    by_cases hf : f a b.1 = true
    · rw [if_pos hf]; exact b.2
    · rw [if_neg hf]; exact h
theorem least_good (pre : List GP) (h : pre ≠ []) : GoodP (leastP (vals pre)) := by
  cases pre with
  | nil => exact absurd rfl h
  | cons a l => exact fold_good l (fun m q => ltP q m) a.1 a.2
theorem most_good (pre : List GP) (h : pre ≠ []) : GoodP (mostP (vals pre)) := by
  cases pre with
  | nil => exact absurd rfl h
  | cons a l => exact fold_good l (fun m q => ltP m q) a.1 a.2
set_option maxRecDepth 100000 in
set_option maxHeartbeats 1000000 in
theorem extremes_in (n : Nat) (hn : 6 ≤ n) (A0 : Option Addr) (c0 : Nat) (A1 : Option Addr) (c1 : Nat) (A2 : Option Addr) (c2 : Nat) (X Y : List Int) (V : List (List Int)) (a0 a1 b0 b1 : Int)
    (ht : tableB X Y V = true) (hxon : onB X a0 a1 = true) (hyon : onB Y b0 b1 = true) (hxle : a0 ≤ a1) (hyle : b0 ≤ b1) (w : World)
    (hr0 : Kd.C (Kd.int .i64) w A0 X.length X) (hc0 : X.length ≤ c0) (hr1 : Kd.C (Kd.int .i64) w A1 Y.length Y) (hc1 : Y.length ≤ c1) (hr2 : Kd.C (Kd.slice 3 (Kd.int .i64)) w A2 V.length V) (hc2 : V.length ≤ c2) :
    CallsIn Fence.wide n Try.prog 89 #[.agg #[.slice A0 X.length c0, .slice A1 Y.length c1, .slice A2 V.length c2], .agg #[.int .i64 a0, .int .i64 a1], .agg #[.int .i64 b0, .int .i64 b1]] w fun e w' =>
      e = .returned (.tuple #[.agg (cellsP (leastP (vals (gridG (stopsL X a0 a1) (stopsL Y b0 b1) (fG X Y V))))), .agg (cellsP (mostP (vals (gridG (stopsL X a0 a1) (stopsL Y b0 b1) (fG X Y V)))))]) ∧ Below w.heap.size w w' := by
  have h1 : 1 ≤ n := by omega
  have HR0 := Aside0.mk hr0
  have HR1 := Aside0.mk hr1
  have HR2 := Aside0.mk hr2
  clear hr0 hr1 hr2
  refine callsIn_of_wp_marks Try.func89 rfl trivial ?_ rfl
  simp only [Try.ntmps89, List.size_toArray, List.length_cons, List.length_nil, Nat.reduceAdd, Nat.reduceSub, Array.replicate_succ, Array.replicate_zero, List.push_toArray, List.append_toArray, List.nil_append, List.cons_append]
  gi_wp2_with (refine ⟨trivial, ?_⟩; gi_at_call 118; refine (corners_in (n - 1) _ _ _ _ _ _ _ _ _ _ _ _ _ _).mono ?_; rintro e w' ⟨rfl, rfl⟩)
  have hb : Below w.heap.size w (((((((((w.alloc (.cells #[.slice A0 X.length c0, .slice A1 Y.length c1, .slice A2 V.length c2] 25)).alloc (.cells #[.int .i64 a0, .int .i64 a1] 27)).alloc (.cells #[.int .i64 b0, .int .i64 b1] 27)).alloc (.cells #[.int .i64 0, .int .i64 0, .int .i64 0, .int .i64 0] 133)).alloc (.cells #[.int .i64 0, .int .i64 0, .int .i64 0, .int .i64 0] 133)).alloc (.cells #[.bool false] 4)).alloc (.cells #[.slice A0 X.length c0, .slice A1 Y.length c1, .slice A2 V.length c2] 25)).alloc (.cells #[.int .i64 a0, .int .i64 a1] 27)).alloc (.cells #[.int .i64 b0, .int .i64 b1] 27)) := by
    repeat (first | exact Below.refl _ _ | apply below_alloc)
  obtain ⟨W3, hW3⟩ : ∃ W3, ((w.alloc (.cells #[.slice A0 X.length c0, .slice A1 Y.length c1, .slice A2 V.length c2] 25)).alloc (.cells #[.int .i64 a0, .int .i64 a1] 27)).alloc (.cells #[.int .i64 b0, .int .i64 b1] 27) = W3 := ⟨_, rfl⟩
  have hz3 : W3.heap.size = w.heap.size + 3 := by rw [← hW3]; simp
  have k6 := blk_new W3 (.cells #[.int .i64 0, .int .i64 0, .int .i64 0, .int .i64 0] 133)
  have k7 := blk_new (W3.alloc (.cells #[.int .i64 0, .int .i64 0, .int .i64 0, .int .i64 0] 133)) (.cells #[.int .i64 0, .int .i64 0, .int .i64 0, .int .i64 0] 133)
  have k8 := blk_new ((W3.alloc (.cells #[.int .i64 0, .int .i64 0, .int .i64 0, .int .i64 0] 133)).alloc (.cells #[.int .i64 0, .int .i64 0, .int .i64 0, .int .i64 0] 133)) (.cells #[.bool false] 4)
  rw [hW3] at hb ⊢
  obtain ⟨W6, hW6⟩ : ∃ W6, ((W3.alloc (.cells #[.int .i64 0, .int .i64 0, .int .i64 0, .int .i64 0] 133)).alloc (.cells #[.int .i64 0, .int .i64 0, .int .i64 0, .int .i64 0] 133)).alloc (.cells #[.bool false] 4) = W6 := ⟨_, rfl⟩
  have hz6 : W6.heap.size = w.heap.size + 6 := by rw [← hW6]; simp [hz3]
  replace k6 : W6.heap[w.heap.size + 1 + 1 + 1]? = some (.cells #[.int .i64 0, .int .i64 0, .int .i64 0, .int .i64 0] 133 (0, 0)) := by rw [← hW6]; have := blk_alloc (blk_alloc k6 (.cells #[.int .i64 0, .int .i64 0, .int .i64 0, .int .i64 0] 133)) (.cells #[.bool false] 4); rwa [hz3] at this
  replace k7 : W6.heap[w.heap.size + 1 + 1 + 1 + 1]? = some (.cells #[.int .i64 0, .int .i64 0, .int .i64 0, .int .i64 0] 133 (0, 0)) := by rw [← hW6]; have := blk_alloc k7 (.cells #[.bool false] 4); rwa [World.size_alloc, hz3] at this
  replace k8 : W6.heap[w.heap.size + 1 + 1 + 1 + 1 + 1]? = some (.cells #[.bool false] 4 (0, 0)) := by rw [← hW6]; have := k8; rwa [World.size_alloc, World.size_alloc, hz3] at this
  rw [hW6] at hb ⊢
  have kT := blk_new W6 (.cells #[.slice A0 X.length c0, .slice A1 Y.length c1, .slice A2 V.length c2] 25)
  have kX := blk_new (W6.alloc (.cells #[.slice A0 X.length c0, .slice A1 Y.length c1, .slice A2 V.length c2] 25)) (.cells #[.int .i64 a0, .int .i64 a1] 27)
  have kY := blk_new ((W6.alloc (.cells #[.slice A0 X.length c0, .slice A1 Y.length c1, .slice A2 V.length c2] 25)).alloc (.cells #[.int .i64 a0, .int .i64 a1] 27)) (.cells #[.int .i64 b0, .int .i64 b1] 27)
  obtain ⟨W0, hW0⟩ : ∃ W0, ((W6.alloc (.cells #[.slice A0 X.length c0, .slice A1 Y.length c1, .slice A2 V.length c2] 25)).alloc (.cells #[.int .i64 a0, .int .i64 a1] 27)).alloc (.cells #[.int .i64 b0, .int .i64 b1] 27) = W0 := ⟨_, rfl⟩
  have hz0 : W0.heap.size = w.heap.size + 9 := by rw [← hW0]; simp [hz6]
  replace k6 : W0.heap[w.heap.size + 1 + 1 + 1]? = some (.cells #[.int .i64 0, .int .i64 0, .int .i64 0, .int .i64 0] 133 (0, 0)) := by rw [← hW0]; exact blk_alloc (blk_alloc (blk_alloc k6 _) _) _
  replace k7 : W0.heap[w.heap.size + 1 + 1 + 1 + 1]? = some (.cells #[.int .i64 0, .int .i64 0, .int .i64 0, .int .i64 0] 133 (0, 0)) := by rw [← hW0]; exact blk_alloc (blk_alloc (blk_alloc k7 _) _) _
  replace k8 : W0.heap[w.heap.size + 1 + 1 + 1 + 1 + 1]? = some (.cells #[.bool false] 4 (0, 0)) := by rw [← hW0]; exact blk_alloc (blk_alloc (blk_alloc k8 _) _) _
  replace kT : W0.heap[w.heap.size + 1 + 1 + 1 + 1 + 1 + 1]? = some (.cells #[.slice A0 X.length c0, .slice A1 Y.length c1, .slice A2 V.length c2] 25 (0, 0)) := by rw [← hW0]; have := blk_alloc (blk_alloc kT (.cells #[.int .i64 a0, .int .i64 a1] 27)) (.cells #[.int .i64 b0, .int .i64 b1] 27); rwa [hz6] at this
  replace kX : W0.heap[w.heap.size + 1 + 1 + 1 + 1 + 1 + 1 + 1]? = some (.cells #[.int .i64 a0, .int .i64 a1] 27 (0, 0)) := by rw [← hW0]; have := blk_alloc kX (.cells #[.int .i64 b0, .int .i64 b1] 27); rwa [World.size_alloc, hz6] at this
  replace kY : W0.heap[w.heap.size + 1 + 1 + 1 + 1 + 1 + 1 + 1 + 1]? = some (.cells #[.int .i64 b0, .int .i64 b1] 27 (0, 0)) := by rw [← hW0]; have := kY; rwa [World.size_alloc, World.size_alloc, hz6] at this
  rw [hW0] at hb ⊢
  clear hW0 hW3 hW6 hz3 hz6
  obtain ⟨s1, e1⟩ : ∃ k, w.heap.size + 1 = k := ⟨_, rfl⟩
  obtain ⟨s2, e2⟩ : ∃ k, s1 + 1 = k := ⟨_, rfl⟩
  obtain ⟨b6, e6⟩ : ∃ k, s2 + 1 = k := ⟨_, rfl⟩
  obtain ⟨b7, e7⟩ : ∃ k, b6 + 1 = k := ⟨_, rfl⟩
  obtain ⟨b8, e8⟩ : ∃ k, b7 + 1 = k := ⟨_, rfl⟩
  obtain ⟨tb, et⟩ : ∃ k, b8 + 1 = k := ⟨_, rfl⟩
  obtain ⟨xb, ex⟩ : ∃ k, tb + 1 = k := ⟨_, rfl⟩
  obtain ⟨yb, ey⟩ : ∃ k, xb + 1 = k := ⟨_, rfl⟩
  simp only [e1, e2, e6, e7, e8, et, ex, ey] at k6 k7 k8 kT kX kY ⊢
  have hord : w.heap.size < b6 ∧ b6 < b7 ∧ b7 < b8 ∧ b8 < tb ∧ tb < xb ∧ xb < yb ∧ yb < W0.heap.size := by omega
  have HO := Aside0.mk hord
  have HK6 := Aside0.mk k6
  have HK7 := Aside0.mk k7
  have HK8 := Aside0.mk k8
  have HKT := Aside0.mk kT
  have HKX := Aside0.mk kX
  have HKY := Aside0.mk kY
  have HB := Aside0.mk hb
  clear e1 e2 e6 e7 e8 et ex ey hz0 hord k6 k7 k8 kT kX kY hb
  refine wpIn_rangeFunc_ownH (F := Fence.wide) rfl h1 (gf := 170) (lb := #[.pointer (some ⟨tb, 0, none⟩), .pointer (some ⟨xb, 0, none⟩), .pointer (some ⟨yb, 0, none⟩)]) rfl trivial (enters_of Try.func170 (by kernel_rfl) rfl)
    (encs := encP) (Kp := KpS w.heap.size (fun k => k = b6 ∨ k = b7 ∨ k = b8)) (S := fun ys => ys = gridG (stopsL X a0 a1) (stopsL Y b0 b1) (fG X Y V)) (Sp := fun pre => pre <+: gridG (stopsL X a0 a1) (stopsL Y b0 b1) (fG X Y V)) (N := (stopsL X a0 a1).length * (stopsL Y b0 b1).length) (w0 := W0)
    (fun l J Jx W hW hJ hJx hY hJ0 => corners1_in (n - 1) (by omega) l tb xb yb _ A0 c0 A1 c1 A2 c2 X Y V a0 a1 b0 b1 ht hxon hyon hxle hyle w HR0.out hc0 HR1.out hc1 HR2.out hc2 J Jx hY W hJ (HB.out.trans (hW.mono HB.out.size)) (blk_below HKT.out hW) (blk_below HKX.out hW) (blk_below HKY.out hW)
      (by have := HO.out; omega) (by have := HO.out; omega) (by have := HO.out; omega) (fun k hk => by have := HO.out; have := hW.size; omega) hJ0)
    KpS.trans (KpS.put HB.out.size) (Below.refl _ _) (fun _ => rfl)
    (fun pre W => ExtI b6 b7 b8 pre W ∧ Below w.heap.size w W) (fun _ _ _ => False)
    (OwnFrom.and (Own.from (fun s A B row hs hg hr => ⟨cells_own b6 133 (fun pre => cellsP (leastP (vals pre))) s A B row hs.1 hg hr, cells_own b7 133 (fun pre => cellsP (mostP (vals pre))) s A B row hs.2.1 hg hr, cells_own b8 4 (fun pre => #[.bool (!pre.isEmpty)]) s A B row hs.2.2 hg hr⟩) _) (ownFrom_below (Nat.le_refl _) HB.out.size))
    (fun _ _ _ _ _ hs _ _ => hs)
    ⟨⟨HK6.out, HK7.out, HK8.out⟩, HB.out⟩
    (fun x a' W => ∃ Bx, b8 < Bx ∧ W.heap[Bx]? = some (.cells (cellsP x.1) 133 (0, 0)) ∧ a' = { tmps := #[.agg #[.slice A0 X.length c0, .slice A1 Y.length c1, .slice A2 V.length c2], .agg #[.int .i64 a0, .int .i64 a1], .agg #[.int .i64 b0, .int .i64 b1], .pointer (some ⟨w.heap.size, 0, none⟩), .pointer (some ⟨s1, 0, none⟩), .pointer (some ⟨s2, 0, none⟩), .pointer (some ⟨b6, 0, none⟩), .pointer (some ⟨b7, 0, none⟩), .pointer (some ⟨b8, 0, none⟩), .pointer (some ⟨Bx, 0, none⟩), .agg #[.slice A0 X.length c0, .slice A1 Y.length c1, .slice A2 V.length c2], .agg #[.int .i64 a0, .int .i64 a1], .agg #[.int .i64 b0, .int .i64 b1], .func (.func 170) #[] #[.pointer (some ⟨tb, 0, none⟩), .pointer (some ⟨xb, 0, none⟩), .pointer (some ⟨yb, 0, none⟩)], .agg #[.int .i64 x.1.x, .int .i64 x.1.y, .int .i64 x.1.n, .int .i64 x.1.d], undef, undef, undef, undef, undef, undef, undef, undef, undef, undef, undef, undef, undef, undef, undef, undef, undef, undef, undef, undef, undef, undef, undef, undef], defers := [] })
    (fun x a' _ A B row hs hg hr => by obtain ⟨Bx, h1, h2, h3⟩ := hs; exact ⟨Bx, h1, cells_own Bx 133 (fun (_ : Unit) => cellsP x.1) () A B row h2 hg (fun r e => (hr r e).2), h3⟩)
    ?assign ?body ?done ?stop
  case assign =>
    rintro l pre x W K ⟨hI, hBl⟩ hK
    have HI := Aside0.mk hI
    have HBl := Aside0.mk hBl
    have hlt8 : b8 < W.heap.size := blk_lt hI.2.2
    clear hI hBl
    dsimp only [encP]
    gi_wp2
    exact hK _ _ ((KeepsOthers.alloc _ _).from _) (KpS.of_below HBl.out.size ((Below.refl _ _).alloc (Nat.le_refl _) _)) ⟨⟨blk_alloc HI.out.1 _, blk_alloc HI.out.2.1 _, blk_alloc HI.out.2.2 _⟩, below_alloc HBl.out _⟩ ⟨W.heap.size, hlt8, blk_new _ _, rfl⟩
  case body =>
    rintro l pre x a' W hl ⟨r, hr⟩ ⟨⟨hL, hM, h8⟩, hBl⟩ ⟨Bx, hBx, hP, rfl⟩ hlt
    have hcmp : pre ≠ [] → ∃ c c', spans_value_compare.f 3 x.1.n x.1.d (leastP (vals pre)).n (leastP (vals pre)).d = some c ∧ (c < 0 ↔ ltP x.1 (leastP (vals pre)) = true) ∧ spans_value_compare.f 3 x.1.n x.1.d (mostP (vals pre)).n (mostP (vals pre)).d = some c' ∧ (c' > 0 ↔ ltP (mostP (vals pre)) x.1 = true) := by
      intro he
      obtain ⟨c, hc1, hc2, _⟩ := compare_total x.2 (least_good pre he) 3 (Nat.le_refl _)
      obtain ⟨c', hd1, _, hd2⟩ := compare_total x.2 (most_good pre he) 3 (Nat.le_refl _)
      exact ⟨c, c', hc1, by rw [hc2]; simp [ltP], hd1, by rw [hd2]; simp [ltP]⟩
    have hls := least_snoc pre x
    have hms := most_snoc pre x
    obtain ⟨L, hLe⟩ : ∃ L, leastP (vals pre) = L := ⟨_, rfl⟩
    obtain ⟨M, hMe⟩ : ∃ M, mostP (vals pre) = M := ⟨_, rfl⟩
    rw [hLe] at hL hls hcmp
    rw [hMe] at hM hms hcmp
    have HCMP := Aside0.mk hcmp
    have HLS := Aside0.mk hls
    have HMS := Aside0.mk hms
    have HP := Aside0.mk hP
    have HL := Aside0.mk hL
    have HM := Aside0.mk hM
    have H8 := Aside0.mk h8
    have HBl := Aside0.mk hBl
    have HR := Aside0.mk hr
    have HHL := Aside0.mk hl
    have cx0 : W.cell? ⟨Bx, 0, none⟩ = some (.int .i64 x.1.x) := (blk_cell hP 0).trans rfl
    have cx1 : W.cell? ⟨Bx, 1, none⟩ = some (.int .i64 x.1.y) := (blk_cell hP 1).trans rfl
    have cx2 : W.cell? ⟨Bx, 2, none⟩ = some (.int .i64 x.1.n) := (blk_cell hP 2).trans rfl
    have cx3 : W.cell? ⟨Bx, 3, none⟩ = some (.int .i64 x.1.d) := (blk_cell hP 3).trans rfl
    have c60 : W.cell? ⟨b6, 0, none⟩ = some (.int .i64 L.x) := (blk_cell hL 0).trans rfl
    have c61 : W.cell? ⟨b6, 1, none⟩ = some (.int .i64 L.y) := (blk_cell hL 1).trans rfl
    have c62 : W.cell? ⟨b6, 2, none⟩ = some (.int .i64 L.n) := (blk_cell hL 2).trans rfl
    have c63 : W.cell? ⟨b6, 3, none⟩ = some (.int .i64 L.d) := (blk_cell hL 3).trans rfl
    have c70 : W.cell? ⟨b7, 0, none⟩ = some (.int .i64 M.x) := (blk_cell hM 0).trans rfl
    have c71 : W.cell? ⟨b7, 1, none⟩ = some (.int .i64 M.y) := (blk_cell hM 1).trans rfl
    have c72 : W.cell? ⟨b7, 2, none⟩ = some (.int .i64 M.n) := (blk_cell hM 2).trans rfl
    have c73 : W.cell? ⟨b7, 3, none⟩ = some (.int .i64 M.d) := (blk_cell hM 3).trans rfl
    have f80 := blk_frozen h8 0
    have f60 := blk_frozen hL 0
    have f61 := blk_frozen hL 1
    have f62 := blk_frozen hL 2
    have f63 := blk_frozen hL 3
    have f70 := blk_frozen hM 0
    have f71 := blk_frozen hM 1
    have f72 := blk_frozen hM 2
    have f73 := blk_frozen hM 3
    have n67 : ¬ (b6 = b7) := by have := HO.out; omega
    have n76 : ¬ (b7 = b6) := by have := HO.out; omega
    have n86 : ¬ (b8 = b6) := by have := HO.out; omega
    have n87 : ¬ (b8 = b7) := by have := HO.out; omega
    have nx6 : ¬ (Bx = b6) := by have := HO.out; omega
    have nx7 : ¬ (Bx = b7) := by have := HO.out; omega
    have nx8 : ¬ (Bx = b8) := by have := HO.out; omega
    have n86' : ¬ (b6 = b8) := by have := HO.out; omega
    have n87' : ¬ (b7 = b8) := by have := HO.out; omega
    have g6 : w.heap.size ≤ b6 := by have := HO.out; omega
    have g7 : w.heap.size ≤ b7 := by have := HO.out; omega
    have g8 : w.heap.size ≤ b8 := by have := HO.out; omega
    have hdep : 1 ≤ n - 1 - 1 := by omega
    by_cases he : pre = []
    · subst he
      have c80 : W.cell? ⟨b8, 0, none⟩ = some (.bool false) := (blk_cell h8 0).trans rfl
      clear hP hL hM h8 hBl hr hl hLe hMe hls hms hcmp
      gi_wp2_with (refine ⟨trivial, ?_⟩)
      change ownPostG _ _ _ _ _ _ _ _ ((put4 (put4 W b6 x.1) b7 x.1).setCell ⟨b8, 0, none⟩ (.bool true))
      have k6 := blk_far (p := ⟨b8, 0, none⟩) (put4_far x.1 (put4_same x.1 HL.out) n67) n86' (.bool true)
      have k7 := blk_far (p := ⟨b8, 0, none⟩) (put4_same x.1 (put4_far x.1 HM.out n76)) n87' (.bool true)
      have k8 := blk_put (put4_far x.1 (put4_far x.1 H8.out n86) n87) 0 (.bool true) (cs' := #[.bool true]) rfl
      exact ⟨(((put4_keeps W b6 x.1).trans (put4_keeps _ b7 x.1)).trans (KeepsOthers.setCell _ _ _)).from _, KpS.put8 (put4_kp x.1 (put4_kp x.1 (KpS.refl _ _ W) g6 (.inl rfl)) g7 (.inr (.inl rfl))) g8 (.inr (.inr rfl)), ⟨⟨k6, k7, k8⟩, below_set (put4_below x.1 (put4_below x.1 HBl.out g6) g7) g8⟩⟩
    · have H8 : Aside0 (W.heap[b8]? = some (.cells #[.bool true] 4 (0, 0))) := by
        refine ⟨h8.trans ?_⟩
        cases pre with
        | nil => exact absurd rfl he
        | cons _ _ => rfl
      have c80 : W.cell? ⟨b8, 0, none⟩ = some (.bool true) := (blk_cell H8.out 0).trans rfl
      obtain ⟨c, c', hc1, hc2, hd1, hd2⟩ := hcmp he
      have hL2 := hls he
      have hM2 := hms he
      have HC1 := Aside0.mk hc1
      have HD1 := Aside0.mk hd1
      have HNE : Aside0 ((!(pre ++ [x]).isEmpty) = true) := ⟨by simp⟩
      have g60 := HO.out
      by_cases hl1 : ltP x.1 L = true
      · rw [if_pos hl1] at hL2
        have hcc := hc2.2 hl1
        by_cases hm1 : ltP M x.1 = true
        · rw [if_pos hm1] at hM2
          have hdd := hd2.2 hm1
          have HL2 := Aside0.mk hL2
          have HM2 := Aside0.mk hM2
          clear hP hL hM h8 hBl hr hl hLe hMe hls hms hcmp hc1 hc2 hd1 hd2 hL2 hM2 hl1 hm1 g60
          gi_wp2_with (refine ⟨trivial, ?_⟩; gi_at_call 150; have hcall := CallsIn.inRound l (callsIn_wide (n := n - 1 - 1 - 1).2 (spans_value_compare.calls 3 x.1.n x.1.d L.n L.d c W HC1.out)); with_reducible refine hcall.mono ?_; clear hcall; rintro e w1 ⟨rfl, hb1⟩; have HL1 := Aside0.mk (blk_below HL.out hb1); have HM1 := Aside0.mk (blk_below HM.out hb1); have HP1 := Aside0.mk (blk_below HP.out hb1); have H81 := Aside0.mk (blk_below H8.out hb1); have HB1 := Aside0.mk hb1; clear hb1; have qb60 : w1.cell? ⟨b6, 0, none⟩ = some (.int .i64 L.x) := (blk_cell HL1.out 0).trans rfl; have rb60 := blk_frozen HL1.out 0; have qb61 : w1.cell? ⟨b6, 1, none⟩ = some (.int .i64 L.y) := (blk_cell HL1.out 1).trans rfl; have rb61 := blk_frozen HL1.out 1; have qb62 : w1.cell? ⟨b6, 2, none⟩ = some (.int .i64 L.n) := (blk_cell HL1.out 2).trans rfl; have rb62 := blk_frozen HL1.out 2; have qb63 : w1.cell? ⟨b6, 3, none⟩ = some (.int .i64 L.d) := (blk_cell HL1.out 3).trans rfl; have rb63 := blk_frozen HL1.out 3; have qb70 : w1.cell? ⟨b7, 0, none⟩ = some (.int .i64 M.x) := (blk_cell HM1.out 0).trans rfl; have rb70 := blk_frozen HM1.out 0; have qb71 : w1.cell? ⟨b7, 1, none⟩ = some (.int .i64 M.y) := (blk_cell HM1.out 1).trans rfl; have rb71 := blk_frozen HM1.out 1; have qb72 : w1.cell? ⟨b7, 2, none⟩ = some (.int .i64 M.n) := (blk_cell HM1.out 2).trans rfl; have rb72 := blk_frozen HM1.out 2; have qb73 : w1.cell? ⟨b7, 3, none⟩ = some (.int .i64 M.d) := (blk_cell HM1.out 3).trans rfl; have rb73 := blk_frozen HM1.out 3; have qBx0 : w1.cell? ⟨Bx, 0, none⟩ = some (.int .i64 x.1.x) := (blk_cell HP1.out 0).trans rfl; have qBx1 : w1.cell? ⟨Bx, 1, none⟩ = some (.int .i64 x.1.y) := (blk_cell HP1.out 1).trans rfl; have qBx2 : w1.cell? ⟨Bx, 2, none⟩ = some (.int .i64 x.1.n) := (blk_cell HP1.out 2).trans rfl; have qBx3 : w1.cell? ⟨Bx, 3, none⟩ = some (.int .i64 x.1.d) := (blk_cell HP1.out 3).trans rfl; have q8 : w1.cell? ⟨b8, 0, none⟩ = some (.bool true) := (blk_cell H81.out 0).trans rfl; have r8 := blk_frozen H81.out 0)
          clear qb60 qb61 qb62 qb63 qb70 qb71 qb72 qb73 qBx0 qBx1 qBx2 qBx3 rb60 rb61 rb62 rb63 rb70 rb71 rb72 rb73 q8 r8
          gi_wp2
          refine ⟨trivial, ?_⟩
          gi_at_call 150
          have hcall := CallsIn.inRound l (callsIn_wide (n := n - 1 - 1 - 1).2 (spans_value_compare.calls 3 x.1.n x.1.d M.n M.d c' ((((w1.setCell ⟨b6, 0, none⟩ (.int .i64 x.1.x)).setCell ⟨b6, 1, none⟩ (.int .i64 x.1.y)).setCell ⟨b6, 2, none⟩ (.int .i64 x.1.n)).setCell ⟨b6, 3, none⟩ (.int .i64 x.1.d)) HD1.out))
          with_reducible refine hcall.mono ?_
          clear hcall
          rintro e w2 ⟨rfl, hb2⟩
          have HL2_ := Aside0.mk (blk_below (w := put4 w1 b6 x.1) (put4_same x.1 HL1.out) hb2)
          have HM2_ := Aside0.mk (blk_below (w := put4 w1 b6 x.1) (put4_far x.1 HM1.out n76) hb2)
          have HP2_ := Aside0.mk (blk_below (w := put4 w1 b6 x.1) (put4_far x.1 HP1.out nx6) hb2)
          have H82_ := Aside0.mk (blk_below (w := put4 w1 b6 x.1) (put4_far x.1 H81.out n86) hb2)
          have HB2 := Aside0.mk hb2
          clear hb2
          have qb60 : w2.cell? ⟨b6, 0, none⟩ = some (.int .i64 x.1.x) := (blk_cell HL2_.out 0).trans rfl
          have rb60 := blk_frozen HL2_.out 0
          have qb61 : w2.cell? ⟨b6, 1, none⟩ = some (.int .i64 x.1.y) := (blk_cell HL2_.out 1).trans rfl
          have rb61 := blk_frozen HL2_.out 1
          have qb62 : w2.cell? ⟨b6, 2, none⟩ = some (.int .i64 x.1.n) := (blk_cell HL2_.out 2).trans rfl
          have rb62 := blk_frozen HL2_.out 2
          have qb63 : w2.cell? ⟨b6, 3, none⟩ = some (.int .i64 x.1.d) := (blk_cell HL2_.out 3).trans rfl
          have rb63 := blk_frozen HL2_.out 3
          have qb70 : w2.cell? ⟨b7, 0, none⟩ = some (.int .i64 M.x) := (blk_cell HM2_.out 0).trans rfl
          have rb70 := blk_frozen HM2_.out 0
          have qb71 : w2.cell? ⟨b7, 1, none⟩ = some (.int .i64 M.y) := (blk_cell HM2_.out 1).trans rfl
          have rb71 := blk_frozen HM2_.out 1
          have qb72 : w2.cell? ⟨b7, 2, none⟩ = some (.int .i64 M.n) := (blk_cell HM2_.out 2).trans rfl
          have rb72 := blk_frozen HM2_.out 2
          have qb73 : w2.cell? ⟨b7, 3, none⟩ = some (.int .i64 M.d) := (blk_cell HM2_.out 3).trans rfl
          have rb73 := blk_frozen HM2_.out 3
          have qBx0 : w2.cell? ⟨Bx, 0, none⟩ = some (.int .i64 x.1.x) := (blk_cell HP2_.out 0).trans rfl
          have qBx1 : w2.cell? ⟨Bx, 1, none⟩ = some (.int .i64 x.1.y) := (blk_cell HP2_.out 1).trans rfl
          have qBx2 : w2.cell? ⟨Bx, 2, none⟩ = some (.int .i64 x.1.n) := (blk_cell HP2_.out 2).trans rfl
          have qBx3 : w2.cell? ⟨Bx, 3, none⟩ = some (.int .i64 x.1.d) := (blk_cell HP2_.out 3).trans rfl
          have q8 : w2.cell? ⟨b8, 0, none⟩ = some (.bool true) := (blk_cell H82_.out 0).trans rfl
          have r8 := blk_frozen H82_.out 0
          gi_wp2
          have kp1 : KpS w.heap.size (fun k => k = b6 ∨ k = b7 ∨ k = b8) W (put4 w1 b6 x.1) := put4_kp x.1 (KpS.of_below HBl.out.size HB1.out) g6 (.inl rfl)
          have kp2 : KpS w.heap.size (fun k => k = b6 ∨ k = b7 ∨ k = b8) W w2 := kp1.trans (KpS.of_below (by have := kp1.1.size; have := HBl.out.size; omega) HB2.out)
          have ke2 : KeepsOthers W w2 := (((kothers_below HB1.out).trans (put4_keeps w1 b6 x.1)).trans (kothers_below HB2.out))
          change ownPostG _ _ _ _ _ _ _ _ ((put4 w2 b7 x.1).setCell ⟨b8, 0, none⟩ (.bool true))
          have k6 := blk_far (p := ⟨b8, 0, none⟩) (put4_far x.1 HL2_.out n67) n86' (.bool true)
          have k7 := blk_far (p := ⟨b8, 0, none⟩) (put4_same x.1 HM2_.out) n87' (.bool true)
          have k8 := blk_put (put4_far x.1 H82_.out n87) 0 (.bool true) (cs' := #[.bool true]) rfl
          refine ⟨((ke2.trans (put4_keeps w2 b7 x.1)).trans (KeepsOthers.setCell _ _ _)).from _, KpS.put8 (put4_kp x.1 kp2 g7 (.inr (.inl rfl))) g8 (.inr (.inr rfl)), ⟨⟨?_, ?_, ?_⟩, ?_⟩⟩
          · rw [HL2.out]; exact k6
          · rw [HM2.out]; exact k7
          · rw [HNE.out]; exact k8
          · exact below_set (put4_below x.1 (HBl.out.trans kp2.1) g7) g8
        · rw [if_neg hm1] at hM2
          have hdd : ¬ c' > 0 := fun h => hm1 (hd2.1 h)
          have HL2 := Aside0.mk hL2
          have HM2 := Aside0.mk hM2
          clear hP hL hM h8 hBl hr hl hLe hMe hls hms hcmp hc1 hc2 hd1 hd2 hL2 hM2 hl1 hm1 g60
          gi_wp2_with (refine ⟨trivial, ?_⟩; gi_at_call 150; have hcall := CallsIn.inRound l (callsIn_wide (n := n - 1 - 1 - 1).2 (spans_value_compare.calls 3 x.1.n x.1.d L.n L.d c W HC1.out)); with_reducible refine hcall.mono ?_; clear hcall; rintro e w1 ⟨rfl, hb1⟩; have HL1 := Aside0.mk (blk_below HL.out hb1); have HM1 := Aside0.mk (blk_below HM.out hb1); have HP1 := Aside0.mk (blk_below HP.out hb1); have H81 := Aside0.mk (blk_below H8.out hb1); have HB1 := Aside0.mk hb1; clear hb1; have qb60 : w1.cell? ⟨b6, 0, none⟩ = some (.int .i64 L.x) := (blk_cell HL1.out 0).trans rfl; have rb60 := blk_frozen HL1.out 0; have qb61 : w1.cell? ⟨b6, 1, none⟩ = some (.int .i64 L.y) := (blk_cell HL1.out 1).trans rfl; have rb61 := blk_frozen HL1.out 1; have qb62 : w1.cell? ⟨b6, 2, none⟩ = some (.int .i64 L.n) := (blk_cell HL1.out 2).trans rfl; have rb62 := blk_frozen HL1.out 2; have qb63 : w1.cell? ⟨b6, 3, none⟩ = some (.int .i64 L.d) := (blk_cell HL1.out 3).trans rfl; have rb63 := blk_frozen HL1.out 3; have qb70 : w1.cell? ⟨b7, 0, none⟩ = some (.int .i64 M.x) := (blk_cell HM1.out 0).trans rfl; have rb70 := blk_frozen HM1.out 0; have qb71 : w1.cell? ⟨b7, 1, none⟩ = some (.int .i64 M.y) := (blk_cell HM1.out 1).trans rfl; have rb71 := blk_frozen HM1.out 1; have qb72 : w1.cell? ⟨b7, 2, none⟩ = some (.int .i64 M.n) := (blk_cell HM1.out 2).trans rfl; have rb72 := blk_frozen HM1.out 2; have qb73 : w1.cell? ⟨b7, 3, none⟩ = some (.int .i64 M.d) := (blk_cell HM1.out 3).trans rfl; have rb73 := blk_frozen HM1.out 3; have qBx0 : w1.cell? ⟨Bx, 0, none⟩ = some (.int .i64 x.1.x) := (blk_cell HP1.out 0).trans rfl; have qBx1 : w1.cell? ⟨Bx, 1, none⟩ = some (.int .i64 x.1.y) := (blk_cell HP1.out 1).trans rfl; have qBx2 : w1.cell? ⟨Bx, 2, none⟩ = some (.int .i64 x.1.n) := (blk_cell HP1.out 2).trans rfl; have qBx3 : w1.cell? ⟨Bx, 3, none⟩ = some (.int .i64 x.1.d) := (blk_cell HP1.out 3).trans rfl; have q8 : w1.cell? ⟨b8, 0, none⟩ = some (.bool true) := (blk_cell H81.out 0).trans rfl; have r8 := blk_frozen H81.out 0)
          clear qb60 qb61 qb62 qb63 qb70 qb71 qb72 qb73 qBx0 qBx1 qBx2 qBx3 rb60 rb61 rb62 rb63 rb70 rb71 rb72 rb73 q8 r8
          gi_wp2
          refine ⟨trivial, ?_⟩
          gi_at_call 150
          have hcall := CallsIn.inRound l (callsIn_wide (n := n - 1 - 1 - 1).2 (spans_value_compare.calls 3 x.1.n x.1.d M.n M.d c' ((((w1.setCell ⟨b6, 0, none⟩ (.int .i64 x.1.x)).setCell ⟨b6, 1, none⟩ (.int .i64 x.1.y)).setCell ⟨b6, 2, none⟩ (.int .i64 x.1.n)).setCell ⟨b6, 3, none⟩ (.int .i64 x.1.d)) HD1.out))
          with_reducible refine hcall.mono ?_
          clear hcall
          rintro e w2 ⟨rfl, hb2⟩
          have HL2_ := Aside0.mk (blk_below (w := put4 w1 b6 x.1) (put4_same x.1 HL1.out) hb2)
          have HM2_ := Aside0.mk (blk_below (w := put4 w1 b6 x.1) (put4_far x.1 HM1.out n76) hb2)
          have HP2_ := Aside0.mk (blk_below (w := put4 w1 b6 x.1) (put4_far x.1 HP1.out nx6) hb2)
          have H82_ := Aside0.mk (blk_below (w := put4 w1 b6 x.1) (put4_far x.1 H81.out n86) hb2)
          have HB2 := Aside0.mk hb2
          clear hb2
          have qb60 : w2.cell? ⟨b6, 0, none⟩ = some (.int .i64 x.1.x) := (blk_cell HL2_.out 0).trans rfl
          have rb60 := blk_frozen HL2_.out 0
          have qb61 : w2.cell? ⟨b6, 1, none⟩ = some (.int .i64 x.1.y) := (blk_cell HL2_.out 1).trans rfl
          have rb61 := blk_frozen HL2_.out 1
          have qb62 : w2.cell? ⟨b6, 2, none⟩ = some (.int .i64 x.1.n) := (blk_cell HL2_.out 2).trans rfl
          have rb62 := blk_frozen HL2_.out 2
          have qb63 : w2.cell? ⟨b6, 3, none⟩ = some (.int .i64 x.1.d) := (blk_cell HL2_.out 3).trans rfl
          have rb63 := blk_frozen HL2_.out 3
          have qb70 : w2.cell? ⟨b7, 0, none⟩ = some (.int .i64 M.x) := (blk_cell HM2_.out 0).trans rfl
          have rb70 := blk_frozen HM2_.out 0
          have qb71 : w2.cell? ⟨b7, 1, none⟩ = some (.int .i64 M.y) := (blk_cell HM2_.out 1).trans rfl
          have rb71 := blk_frozen HM2_.out 1
          have qb72 : w2.cell? ⟨b7, 2, none⟩ = some (.int .i64 M.n) := (blk_cell HM2_.out 2).trans rfl
          have rb72 := blk_frozen HM2_.out 2
          have qb73 : w2.cell? ⟨b7, 3, none⟩ = some (.int .i64 M.d) := (blk_cell HM2_.out 3).trans rfl
          have rb73 := blk_frozen HM2_.out 3
          have qBx0 : w2.cell? ⟨Bx, 0, none⟩ = some (.int .i64 x.1.x) := (blk_cell HP2_.out 0).trans rfl
          have qBx1 : w2.cell? ⟨Bx, 1, none⟩ = some (.int .i64 x.1.y) := (blk_cell HP2_.out 1).trans rfl
          have qBx2 : w2.cell? ⟨Bx, 2, none⟩ = some (.int .i64 x.1.n) := (blk_cell HP2_.out 2).trans rfl
          have qBx3 : w2.cell? ⟨Bx, 3, none⟩ = some (.int .i64 x.1.d) := (blk_cell HP2_.out 3).trans rfl
          have q8 : w2.cell? ⟨b8, 0, none⟩ = some (.bool true) := (blk_cell H82_.out 0).trans rfl
          have r8 := blk_frozen H82_.out 0
          gi_wp2
          have kp1 : KpS w.heap.size (fun k => k = b6 ∨ k = b7 ∨ k = b8) W (put4 w1 b6 x.1) := put4_kp x.1 (KpS.of_below HBl.out.size HB1.out) g6 (.inl rfl)
          have kp2 : KpS w.heap.size (fun k => k = b6 ∨ k = b7 ∨ k = b8) W w2 := kp1.trans (KpS.of_below (by have := kp1.1.size; have := HBl.out.size; omega) HB2.out)
          have ke2 : KeepsOthers W w2 := (((kothers_below HB1.out).trans (put4_keeps w1 b6 x.1)).trans (kothers_below HB2.out))
          change ownPostG _ _ _ _ _ _ _ _ (w2.setCell ⟨b8, 0, none⟩ (.bool true))
          have k6 := blk_far (p := ⟨b8, 0, none⟩) HL2_.out n86' (.bool true)
          have k7 := blk_far (p := ⟨b8, 0, none⟩) HM2_.out n87' (.bool true)
          have k8 := blk_put H82_.out 0 (.bool true) (cs' := #[.bool true]) rfl
          refine ⟨((ke2).trans (KeepsOthers.setCell _ _ _)).from _, KpS.put8 kp2 g8 (.inr (.inr rfl)), ⟨⟨?_, ?_, ?_⟩, ?_⟩⟩
          · rw [HL2.out]; exact k6
          · rw [HM2.out]; exact k7
          · rw [HNE.out]; exact k8
          · exact below_set (HBl.out.trans kp2.1) g8
      · rw [if_neg hl1] at hL2
        have hcc : ¬ c < 0 := fun h => hl1 (hc2.1 h)
        by_cases hm1 : ltP M x.1 = true
        · rw [if_pos hm1] at hM2
          have hdd := hd2.2 hm1
          have HL2 := Aside0.mk hL2
          have HM2 := Aside0.mk hM2
          clear hP hL hM h8 hBl hr hl hLe hMe hls hms hcmp hc1 hc2 hd1 hd2 hL2 hM2 hl1 hm1 g60
          gi_wp2_with (refine ⟨trivial, ?_⟩; gi_at_call 150; have hcall := CallsIn.inRound l (callsIn_wide (n := n - 1 - 1 - 1).2 (spans_value_compare.calls 3 x.1.n x.1.d L.n L.d c W HC1.out)); with_reducible refine hcall.mono ?_; clear hcall; rintro e w1 ⟨rfl, hb1⟩; have HL1 := Aside0.mk (blk_below HL.out hb1); have HM1 := Aside0.mk (blk_below HM.out hb1); have HP1 := Aside0.mk (blk_below HP.out hb1); have H81 := Aside0.mk (blk_below H8.out hb1); have HB1 := Aside0.mk hb1; clear hb1; have qb60 : w1.cell? ⟨b6, 0, none⟩ = some (.int .i64 L.x) := (blk_cell HL1.out 0).trans rfl; have rb60 := blk_frozen HL1.out 0; have qb61 : w1.cell? ⟨b6, 1, none⟩ = some (.int .i64 L.y) := (blk_cell HL1.out 1).trans rfl; have rb61 := blk_frozen HL1.out 1; have qb62 : w1.cell? ⟨b6, 2, none⟩ = some (.int .i64 L.n) := (blk_cell HL1.out 2).trans rfl; have rb62 := blk_frozen HL1.out 2; have qb63 : w1.cell? ⟨b6, 3, none⟩ = some (.int .i64 L.d) := (blk_cell HL1.out 3).trans rfl; have rb63 := blk_frozen HL1.out 3; have qb70 : w1.cell? ⟨b7, 0, none⟩ = some (.int .i64 M.x) := (blk_cell HM1.out 0).trans rfl; have rb70 := blk_frozen HM1.out 0; have qb71 : w1.cell? ⟨b7, 1, none⟩ = some (.int .i64 M.y) := (blk_cell HM1.out 1).trans rfl; have rb71 := blk_frozen HM1.out 1; have qb72 : w1.cell? ⟨b7, 2, none⟩ = some (.int .i64 M.n) := (blk_cell HM1.out 2).trans rfl; have rb72 := blk_frozen HM1.out 2; have qb73 : w1.cell? ⟨b7, 3, none⟩ = some (.int .i64 M.d) := (blk_cell HM1.out 3).trans rfl; have rb73 := blk_frozen HM1.out 3; have qBx0 : w1.cell? ⟨Bx, 0, none⟩ = some (.int .i64 x.1.x) := (blk_cell HP1.out 0).trans rfl; have qBx1 : w1.cell? ⟨Bx, 1, none⟩ = some (.int .i64 x.1.y) := (blk_cell HP1.out 1).trans rfl; have qBx2 : w1.cell? ⟨Bx, 2, none⟩ = some (.int .i64 x.1.n) := (blk_cell HP1.out 2).trans rfl; have qBx3 : w1.cell? ⟨Bx, 3, none⟩ = some (.int .i64 x.1.d) := (blk_cell HP1.out 3).trans rfl; have q8 : w1.cell? ⟨b8, 0, none⟩ = some (.bool true) := (blk_cell H81.out 0).trans rfl; have r8 := blk_frozen H81.out 0)
          clear qb60 qb61 qb62 qb63 qb70 qb71 qb72 qb73 qBx0 qBx1 qBx2 qBx3 rb60 rb61 rb62 rb63 rb70 rb71 rb72 rb73 q8 r8
          gi_wp2_with (refine ⟨trivial, ?_⟩; gi_at_call 150; have hcall := CallsIn.inRound l (callsIn_wide (n := n - 1 - 1 - 1).2 (spans_value_compare.calls 3 x.1.n x.1.d M.n M.d c' w1 HD1.out)); with_reducible refine hcall.mono ?_; clear hcall; rintro e w2 ⟨rfl, hb2⟩; have HL2_ := Aside0.mk (blk_below HL1.out hb2); have HM2_ := Aside0.mk (blk_below HM1.out hb2); have HP2_ := Aside0.mk (blk_below HP1.out hb2); have H82_ := Aside0.mk (blk_below H81.out hb2); have HB2 := Aside0.mk hb2; clear hb2; have qb60 : w2.cell? ⟨b6, 0, none⟩ = some (.int .i64 L.x) := (blk_cell HL2_.out 0).trans rfl; have rb60 := blk_frozen HL2_.out 0; have qb61 : w2.cell? ⟨b6, 1, none⟩ = some (.int .i64 L.y) := (blk_cell HL2_.out 1).trans rfl; have rb61 := blk_frozen HL2_.out 1; have qb62 : w2.cell? ⟨b6, 2, none⟩ = some (.int .i64 L.n) := (blk_cell HL2_.out 2).trans rfl; have rb62 := blk_frozen HL2_.out 2; have qb63 : w2.cell? ⟨b6, 3, none⟩ = some (.int .i64 L.d) := (blk_cell HL2_.out 3).trans rfl; have rb63 := blk_frozen HL2_.out 3; have qb70 : w2.cell? ⟨b7, 0, none⟩ = some (.int .i64 M.x) := (blk_cell HM2_.out 0).trans rfl; have rb70 := blk_frozen HM2_.out 0; have qb71 : w2.cell? ⟨b7, 1, none⟩ = some (.int .i64 M.y) := (blk_cell HM2_.out 1).trans rfl; have rb71 := blk_frozen HM2_.out 1; have qb72 : w2.cell? ⟨b7, 2, none⟩ = some (.int .i64 M.n) := (blk_cell HM2_.out 2).trans rfl; have rb72 := blk_frozen HM2_.out 2; have qb73 : w2.cell? ⟨b7, 3, none⟩ = some (.int .i64 M.d) := (blk_cell HM2_.out 3).trans rfl; have rb73 := blk_frozen HM2_.out 3; have qBx0 : w2.cell? ⟨Bx, 0, none⟩ = some (.int .i64 x.1.x) := (blk_cell HP2_.out 0).trans rfl; have qBx1 : w2.cell? ⟨Bx, 1, none⟩ = some (.int .i64 x.1.y) := (blk_cell HP2_.out 1).trans rfl; have qBx2 : w2.cell? ⟨Bx, 2, none⟩ = some (.int .i64 x.1.n) := (blk_cell HP2_.out 2).trans rfl; have qBx3 : w2.cell? ⟨Bx, 3, none⟩ = some (.int .i64 x.1.d) := (blk_cell HP2_.out 3).trans rfl; have q8 : w2.cell? ⟨b8, 0, none⟩ = some (.bool true) := (blk_cell H82_.out 0).trans rfl; have r8 := blk_frozen H82_.out 0)
          have kp1 : KpS w.heap.size (fun k => k = b6 ∨ k = b7 ∨ k = b8) W w1 := KpS.of_below HBl.out.size HB1.out
          have kp2 : KpS w.heap.size (fun k => k = b6 ∨ k = b7 ∨ k = b8) W w2 := kp1.trans (KpS.of_below (by have := kp1.1.size; have := HBl.out.size; omega) HB2.out)
          have ke2 : KeepsOthers W w2 := ((kothers_below HB1.out).trans (kothers_below HB2.out))
          change ownPostG _ _ _ _ _ _ _ _ ((put4 w2 b7 x.1).setCell ⟨b8, 0, none⟩ (.bool true))
          have k6 := blk_far (p := ⟨b8, 0, none⟩) (put4_far x.1 HL2_.out n67) n86' (.bool true)
          have k7 := blk_far (p := ⟨b8, 0, none⟩) (put4_same x.1 HM2_.out) n87' (.bool true)
          have k8 := blk_put (put4_far x.1 H82_.out n87) 0 (.bool true) (cs' := #[.bool true]) rfl
          refine ⟨((ke2.trans (put4_keeps w2 b7 x.1)).trans (KeepsOthers.setCell _ _ _)).from _, KpS.put8 (put4_kp x.1 kp2 g7 (.inr (.inl rfl))) g8 (.inr (.inr rfl)), ⟨⟨?_, ?_, ?_⟩, ?_⟩⟩
          · rw [HL2.out]; exact k6
          · rw [HM2.out]; exact k7
          · rw [HNE.out]; exact k8
          · exact below_set (put4_below x.1 (HBl.out.trans kp2.1) g7) g8
        · rw [if_neg hm1] at hM2
          have hdd : ¬ c' > 0 := fun h => hm1 (hd2.1 h)
          have HL2 := Aside0.mk hL2
          have HM2 := Aside0.mk hM2
          clear hP hL hM h8 hBl hr hl hLe hMe hls hms hcmp hc1 hc2 hd1 hd2 hL2 hM2 hl1 hm1 g60
          gi_wp2_with (refine ⟨trivial, ?_⟩; gi_at_call 150; have hcall := CallsIn.inRound l (callsIn_wide (n := n - 1 - 1 - 1).2 (spans_value_compare.calls 3 x.1.n x.1.d L.n L.d c W HC1.out)); with_reducible refine hcall.mono ?_; clear hcall; rintro e w1 ⟨rfl, hb1⟩; have HL1 := Aside0.mk (blk_below HL.out hb1); have HM1 := Aside0.mk (blk_below HM.out hb1); have HP1 := Aside0.mk (blk_below HP.out hb1); have H81 := Aside0.mk (blk_below H8.out hb1); have HB1 := Aside0.mk hb1; clear hb1; have qb60 : w1.cell? ⟨b6, 0, none⟩ = some (.int .i64 L.x) := (blk_cell HL1.out 0).trans rfl; have rb60 := blk_frozen HL1.out 0; have qb61 : w1.cell? ⟨b6, 1, none⟩ = some (.int .i64 L.y) := (blk_cell HL1.out 1).trans rfl; have rb61 := blk_frozen HL1.out 1; have qb62 : w1.cell? ⟨b6, 2, none⟩ = some (.int .i64 L.n) := (blk_cell HL1.out 2).trans rfl; have rb62 := blk_frozen HL1.out 2; have qb63 : w1.cell? ⟨b6, 3, none⟩ = some (.int .i64 L.d) := (blk_cell HL1.out 3).trans rfl; have rb63 := blk_frozen HL1.out 3; have qb70 : w1.cell? ⟨b7, 0, none⟩ = some (.int .i64 M.x) := (blk_cell HM1.out 0).trans rfl; have rb70 := blk_frozen HM1.out 0; have qb71 : w1.cell? ⟨b7, 1, none⟩ = some (.int .i64 M.y) := (blk_cell HM1.out 1).trans rfl; have rb71 := blk_frozen HM1.out 1; have qb72 : w1.cell? ⟨b7, 2, none⟩ = some (.int .i64 M.n) := (blk_cell HM1.out 2).trans rfl; have rb72 := blk_frozen HM1.out 2; have qb73 : w1.cell? ⟨b7, 3, none⟩ = some (.int .i64 M.d) := (blk_cell HM1.out 3).trans rfl; have rb73 := blk_frozen HM1.out 3; have qBx0 : w1.cell? ⟨Bx, 0, none⟩ = some (.int .i64 x.1.x) := (blk_cell HP1.out 0).trans rfl; have qBx1 : w1.cell? ⟨Bx, 1, none⟩ = some (.int .i64 x.1.y) := (blk_cell HP1.out 1).trans rfl; have qBx2 : w1.cell? ⟨Bx, 2, none⟩ = some (.int .i64 x.1.n) := (blk_cell HP1.out 2).trans rfl; have qBx3 : w1.cell? ⟨Bx, 3, none⟩ = some (.int .i64 x.1.d) := (blk_cell HP1.out 3).trans rfl; have q8 : w1.cell? ⟨b8, 0, none⟩ = some (.bool true) := (blk_cell H81.out 0).trans rfl; have r8 := blk_frozen H81.out 0)
          clear qb60 qb61 qb62 qb63 qb70 qb71 qb72 qb73 qBx0 qBx1 qBx2 qBx3 rb60 rb61 rb62 rb63 rb70 rb71 rb72 rb73 q8 r8
          gi_wp2_with (refine ⟨trivial, ?_⟩; gi_at_call 150; have hcall := CallsIn.inRound l (callsIn_wide (n := n - 1 - 1 - 1).2 (spans_value_compare.calls 3 x.1.n x.1.d M.n M.d c' w1 HD1.out)); with_reducible refine hcall.mono ?_; clear hcall; rintro e w2 ⟨rfl, hb2⟩; have HL2_ := Aside0.mk (blk_below HL1.out hb2); have HM2_ := Aside0.mk (blk_below HM1.out hb2); have HP2_ := Aside0.mk (blk_below HP1.out hb2); have H82_ := Aside0.mk (blk_below H81.out hb2); have HB2 := Aside0.mk hb2; clear hb2; have qb60 : w2.cell? ⟨b6, 0, none⟩ = some (.int .i64 L.x) := (blk_cell HL2_.out 0).trans rfl; have rb60 := blk_frozen HL2_.out 0; have qb61 : w2.cell? ⟨b6, 1, none⟩ = some (.int .i64 L.y) := (blk_cell HL2_.out 1).trans rfl; have rb61 := blk_frozen HL2_.out 1; have qb62 : w2.cell? ⟨b6, 2, none⟩ = some (.int .i64 L.n) := (blk_cell HL2_.out 2).trans rfl; have rb62 := blk_frozen HL2_.out 2; have qb63 : w2.cell? ⟨b6, 3, none⟩ = some (.int .i64 L.d) := (blk_cell HL2_.out 3).trans rfl; have rb63 := blk_frozen HL2_.out 3; have qb70 : w2.cell? ⟨b7, 0, none⟩ = some (.int .i64 M.x) := (blk_cell HM2_.out 0).trans rfl; have rb70 := blk_frozen HM2_.out 0; have qb71 : w2.cell? ⟨b7, 1, none⟩ = some (.int .i64 M.y) := (blk_cell HM2_.out 1).trans rfl; have rb71 := blk_frozen HM2_.out 1; have qb72 : w2.cell? ⟨b7, 2, none⟩ = some (.int .i64 M.n) := (blk_cell HM2_.out 2).trans rfl; have rb72 := blk_frozen HM2_.out 2; have qb73 : w2.cell? ⟨b7, 3, none⟩ = some (.int .i64 M.d) := (blk_cell HM2_.out 3).trans rfl; have rb73 := blk_frozen HM2_.out 3; have qBx0 : w2.cell? ⟨Bx, 0, none⟩ = some (.int .i64 x.1.x) := (blk_cell HP2_.out 0).trans rfl; have qBx1 : w2.cell? ⟨Bx, 1, none⟩ = some (.int .i64 x.1.y) := (blk_cell HP2_.out 1).trans rfl; have qBx2 : w2.cell? ⟨Bx, 2, none⟩ = some (.int .i64 x.1.n) := (blk_cell HP2_.out 2).trans rfl; have qBx3 : w2.cell? ⟨Bx, 3, none⟩ = some (.int .i64 x.1.d) := (blk_cell HP2_.out 3).trans rfl; have q8 : w2.cell? ⟨b8, 0, none⟩ = some (.bool true) := (blk_cell H82_.out 0).trans rfl; have r8 := blk_frozen H82_.out 0)
          have kp1 : KpS w.heap.size (fun k => k = b6 ∨ k = b7 ∨ k = b8) W w1 := KpS.of_below HBl.out.size HB1.out
          have kp2 : KpS w.heap.size (fun k => k = b6 ∨ k = b7 ∨ k = b8) W w2 := kp1.trans (KpS.of_below (by have := kp1.1.size; have := HBl.out.size; omega) HB2.out)
          have ke2 : KeepsOthers W w2 := ((kothers_below HB1.out).trans (kothers_below HB2.out))
          change ownPostG _ _ _ _ _ _ _ _ (w2.setCell ⟨b8, 0, none⟩ (.bool true))
          have k6 := blk_far (p := ⟨b8, 0, none⟩) HL2_.out n86' (.bool true)
          have k7 := blk_far (p := ⟨b8, 0, none⟩) HM2_.out n87' (.bool true)
          have k8 := blk_put H82_.out 0 (.bool true) (cs' := #[.bool true]) rfl
          refine ⟨((ke2).trans (KeepsOthers.setCell _ _ _)).from _, KpS.put8 kp2 g8 (.inr (.inr rfl)), ⟨⟨?_, ?_, ?_⟩, ?_⟩⟩
          · rw [HL2.out]; exact k6
          · rw [HM2.out]; exact k7
          · rw [HNE.out]; exact k8
          · exact below_set (HBl.out.trans kp2.1) g8
  case done =>
    rintro D zs W hD rfl ⟨⟨hL, hM, _⟩, hBl⟩ hK
    obtain ⟨L, hLe⟩ : ∃ L, leastP (vals (gridG (stopsL X a0 a1) (stopsL Y b0 b1) (fG X Y V))) = L := ⟨_, rfl⟩
    obtain ⟨M, hMe⟩ : ∃ M, mostP (vals (gridG (stopsL X a0 a1) (stopsL Y b0 b1) (fG X Y V))) = M := ⟨_, rfl⟩
    rw [hLe] at hL
    rw [hMe] at hM
    have HLe := Aside0.mk hLe
    have HMe := Aside0.mk hMe
    clear hLe hMe
    have HL := Aside0.mk hL
    have HM := Aside0.mk hM
    have HBl := Aside0.mk hBl
    have HKD := Aside0.mk hK
    have HD := Aside0.mk hD
    have c60 : W.cell? ⟨b6, 0, none⟩ = some (.int .i64 L.x) := (blk_cell hL 0).trans rfl
    have c61 : W.cell? ⟨b6, 1, none⟩ = some (.int .i64 L.y) := (blk_cell hL 1).trans rfl
    have c62 : W.cell? ⟨b6, 2, none⟩ = some (.int .i64 L.n) := (blk_cell hL 2).trans rfl
    have c63 : W.cell? ⟨b6, 3, none⟩ = some (.int .i64 L.d) := (blk_cell hL 3).trans rfl
    have c70 : W.cell? ⟨b7, 0, none⟩ = some (.int .i64 M.x) := (blk_cell hM 0).trans rfl
    have c71 : W.cell? ⟨b7, 1, none⟩ = some (.int .i64 M.y) := (blk_cell hM 1).trans rfl
    have c72 : W.cell? ⟨b7, 2, none⟩ = some (.int .i64 M.n) := (blk_cell hM 2).trans rfl
    have c73 : W.cell? ⟨b7, 3, none⟩ = some (.int .i64 M.d) := (blk_cell hM 3).trans rfl
    have n67 : ¬ (b6 = b7) := by have := HO.out; omega
    have n76 : ¬ (b7 = b6) := by have := HO.out; omega
    have f60 := blk_frozen hL 0
    have f61 := blk_frozen hL 1
    have f62 := blk_frozen hL 2
    have f63 := blk_frozen hL 3
    have f70 := blk_frozen hM 0
    have f71 := blk_frozen hM 1
    have f72 := blk_frozen hM 2
    have f73 := blk_frozen hM 3
    clear hL hM hBl hK hD
    gi_wp2
    gi_region
    all_goals gi_wp2
    change bodyPostM Fence.wide n Try.prog Try.f89 _ .ret _ (put4 (put4 W b6 L) b7 M).drew
    have hK' : (put4 (put4 W b6 L) b7 M).heap[D]? = some (.deferred (some [])) := (((put4_keeps W b6 L).trans (put4_keeps _ b7 M)).same D _ HKD.out rfl)
    have hKd : (put4 (put4 W b6 L) b7 M).drew.heap[D]? = some (.deferred (some [])) := blk_drew hK'
    refine ⟨by simp, .inl ⟨_, _, rfl, run_takeDeferred hKd, ?_⟩⟩
    have k6 := blk_drew (put4_far M (put4_same L HL.out) n67)
    have k7 := blk_drew (put4_same M (put4_far L HM.out n76))
    have q6 := blk_grown (w := (put4 (put4 W b6 L) b7 M).drew) (w1 := (put4 (put4 W b6 L) b7 M).drew.putObj D (.deferred none)) (row := some D) k6 (grownBy_putObj' _ D (.deferred none)) (fun e => by cases e; rw [hKd] at k6; cases k6)
    have q7 := blk_grown (w := (put4 (put4 W b6 L) b7 M).drew) (w1 := (put4 (put4 W b6 L) b7 M).drew.putObj D (.deferred none)) (row := some D) k7 (grownBy_putObj' _ D (.deferred none)) (fun e => by cases e; rw [hKd] at k7; cases k7)
    have hb4 : Below w.heap.size w (put4 (put4 W b6 L) b7 M).drew := below_drew (put4_below M (put4_below L HBl.out (by have := HO.out; omega)) (by have := HO.out; omega))
    refine ⟨_, results_cc (p := 6) (p' := 7) (ty := 133) (ty' := 133) rfl _ _ b6 b7 133 133 _ _ (0, 0) (0, 0) _ _ rfl q6 rfl rfl rfl rfl q7 rfl rfl rfl, ⟨?_, ?_⟩⟩
    · rw [HLe.out, HMe.out]
    · exact hb4.trans (belowK_b HB.out.size _ D (.deferred (some [])) (.deferred none) HD.out hKd rfl rfl)
  case stop =>
    rintro D c pre W _ _ h _
    exact h.elim
end Go.Proofs.Yteodlmgmmpkpoaa.PS
end
section
namespace Go.Proofs.Yteodlmgmmpkpoaa.PS
open Go.RowKit Go.Shelf Go.Proofs.YteodlmgmmpkpoaaW.PrintWords Go.Proofs.YteodlmgmmpkpoaaW.PrintLast Go.Proofs.YteodlmgmmpkpoaaW.PrintMore
set_option linter.unusedVariables false
theorem vals_grid (xs ys : List Int) (f : Int → Int → GP) (g : Int → Int → Pt) (h : ∀ x ∈ xs, ∀ y ∈ ys, (f x y).1 = g x y) : vals (gridG xs ys f) = gridL xs ys g := by
  unfold vals gridG gridL
  induction xs with
  | nil => rfl
  | cons a l ih =>
    rw [List.flatMap_cons, List.flatMap_cons, List.map_append, ih (fun x hx => h x (List.mem_cons_of_mem _ hx)), List.map_map]
    congr 1
    exact List.map_congr_left fun y hy => h a (List.mem_cons_self) y hy
theorem pts_vals {X Y : List Int} {V : List (List Int)} {a0 a1 b0 b1 : Int} (ht : tableB X Y V = true) (hxon : onB X a0 a1 = true) (hyon : onB Y b0 b1 = true) (hxle : a0 ≤ a1) (hyle : b0 ≤ b1) :
    vals (gridG (stopsL X a0 a1) (stopsL Y b0 b1) (fG X Y V)) = ptsL X Y V a0 a1 b0 b1 :=
  vals_grid _ _ _ _ fun x hx y hy => fG_val (tb_of ht) (stops_on hxon hxle hx).1 (stops_on hyon hyle hy).1
theorem spans_extremes.calls (A0_0 : Option Addr) (c0_0 : Nat) (l0_0 : List Int) (A0_1 : Option Addr) (c0_1 : Nat) (l0_1 : List Int) (A0_2 : Option Addr) (c0_2 : Nat) (l0_2 : List (List Int)) (a1_0 : Int) (a1_1 : Int) (a2_0 : Int) (a2_1 : Int) (r1 : Int) (r2 : Int) (r3 : Int) (r4 : Int) (r5 : Int) (r6 : Int) (r7 : Int) (r8 : Int) (w : World) (hr0_0 : Kd.C (Kd.int .i64) w A0_0 l0_0.length l0_0) (hc0_0 : l0_0.length ≤ c0_0) (hr0_1 : Kd.C (Kd.int .i64) w A0_1 l0_1.length l0_1) (hc0_1 : l0_1.length ≤ c0_1) (hr0_2 : Kd.C (Kd.slice 3 (Kd.int .i64)) w A0_2 l0_2.length l0_2) (hc0_2 : l0_2.length ≤ c0_2) (h : spans_extremes.f l0_0 l0_1 l0_2 a1_0 a1_1 a2_0 a2_1 = some (r1, r2, r3, r4, r5, r6, r7, r8)) :
    Calls Try.prog 89 #[.agg #[.slice A0_0 l0_0.length c0_0, .slice A0_1 l0_1.length c0_1, .slice A0_2 l0_2.length c0_2], .agg #[.int .i64 a1_0, .int .i64 a1_1], .agg #[.int .i64 a2_0, .int .i64 a2_1]] w fun e w' => e = .returned (.tuple #[.agg #[.int .i64 r1, .int .i64 r2, .int .i64 r3, .int .i64 r4], .agg #[.int .i64 r5, .int .i64 r6, .int .i64 r7, .int .i64 r8]]) ∧ Below w.heap.size w w' := by
  unfold spans_extremes.f at h
  by_cases hp : pointsB l0_0 l0_1 l0_2 a1_0 a1_1 a2_0 a2_1 = true
  · rw [if_pos hp] at h
    have hpb := hp
    unfold pointsB at hpb
    simp only [Bool.and_eq_true] at hpb
    obtain ⟨⟨ht, ho0, ho1⟩, hx, hy⟩ := hpb
    have hc := callsIn_wide.1 (extremes_in 6 (Nat.le_refl _) A0_0 c0_0 A0_1 c0_1 A0_2 c0_2 l0_0 l0_1 l0_2 a1_0 a1_1 a2_0 a2_1 ht hx hy (okS_le ho0) (okS_le ho1) w hr0_0 hc0_0 hr0_1 hc0_1 hr0_2 hc0_2)
    rw [pts_vals ht hx hy (okS_le ho0) (okS_le ho1)] at hc
    simp only [Option.some.injEq, Prod.mk.injEq] at h
    obtain ⟨rfl, rfl, rfl, rfl, rfl, rfl, rfl, rfl⟩ := h
    exact hc
  · rw [if_neg hp] at h
    cases h
end Go.Proofs.Yteodlmgmmpkpoaa.PS
end
section
namespace Go.Proofs.Yteodlmgmmpkpoaa.PS
open Go.RowKit Go.Proofs.YteodlmgmmpkpoaaW.PrintWords Go.Proofs.YteodlmgmmpkpoaaW.PrintLast Go.Proofs.YteodlmgmmpkpoaaW.PrintMore
attribute [local go_sem] max2_int min2_int max_two min_two max_three min_three max_four min_four   -- for this text's walks alone
set_option linter.unusedVariables false
set_option linter.unusedSimpArgs false
def spans_Bound.f (l0_0 : List Int) (l0_1 : List Int) (l0_2 : List (List Int)) (a1_0 : Int) (a1_1 : Int) (a2_0 : Int) (a2_1 : Int) : Option (Int × Int × Int) := (spans_checkPoints.f l0_0 l0_1 l0_2 a1_0 a1_1 a2_0 a2_1).bind fun t242 => (if t242 = 0 then ((spans_extremes.f l0_0 l0_1 l0_2 a1_0 a1_1 a2_0 a2_1).bind fun bt243 => ((spans_floor.f bt243.2.2.1 bt243.2.2.2.1).bind fun t253 => ((spans_value_up.f bt243.2.2.2.2.2.2.1 bt243.2.2.2.2.2.2.2).bind fun t254 => (some (t253, t254, 0))))) else (some (0, 0, t242)))
def spans_Bound.T5 : Bool × List (List Nat × List Nat) := (true, [([], []), ([0], [0]), ([1], [1]), ([], []), ([3], [3]), ([4], [4]), ([2, 5], [2, 5]), ([], []), ([7], [7]), ([8, 6], [8]), ([6, 9], [6, 9]), ([10, 9, 0, 1, 2, 3, 4, 5, 6, 7, 8, 9, 10], [10]), ([11, 0, 1, 2, 3, 4, 5, 6, 7, 8, 9, 10, 11], [])])
def spans_Bound.B5 : List Nat := [0, 1, 3, 0, 8, 24, 63, 0, 128, 511, 1023, 2047, 4095]
theorem spans_Bound.tab5 : rtab .any (opsOf Try.f30 5) = spans_Bound.T5 := by kernel_rfl
theorem spans_Bound.bits5 : waitsOk spans_Bound.T5.2 spans_Bound.B5 = true := by kernel_rfl
set_option maxHeartbeats 8000000 in
set_option maxRecDepth 100000 in
theorem spans_Bound.calls (A0_0 : Option Addr) (c0_0 : Nat) (l0_0 : List Int) (A0_1 : Option Addr) (c0_1 : Nat) (l0_1 : List Int) (A0_2 : Option Addr) (c0_2 : Nat) (l0_2 : List (List Int)) (a1_0 : Int) (a1_1 : Int) (a2_0 : Int) (a2_1 : Int) (r1 : Int) (r2 : Int) (r3 : Int) (w : World) (hr0_0 : Kd.C (Kd.int .i64) w A0_0 l0_0.length l0_0) (hc0_0 : l0_0.length ≤ c0_0) (hr0_1 : Kd.C (Kd.int .i64) w A0_1 l0_1.length l0_1) (hc0_1 : l0_1.length ≤ c0_1) (hr0_2 : Kd.C (Kd.slice 3 (Kd.int .i64)) w A0_2 l0_2.length l0_2) (hc0_2 : l0_2.length ≤ c0_2) (h : spans_Bound.f l0_0 l0_1 l0_2 a1_0 a1_1 a2_0 a2_1 = some (r1, r2, r3)) :
  Calls Try.prog 30 #[.agg #[.slice A0_0 l0_0.length c0_0, .slice A0_1 l0_1.length c0_1, .slice A0_2 l0_2.length c0_2], .agg #[.int .i64 a1_0, .int .i64 a1_1], .agg #[.int .i64 a2_0, .int .i64 a2_1]] w fun e w' => e = .returned (.tuple #[.agg #[.int .i64 r1, .int .i64 r2], .int .i64 r3]) ∧ Below w.heap.size w w' := by
 have hu25 := Try.underlying25
 have hu27 := Try.underlying27
 have hu133 := Try.underlying133
 have hu131 := Try.underlying131
 have HR0_0 := Aside0.mk hr0_0
 have HC0_0 := Aside0.mk hc0_0
 clear hr0_0 hc0_0
 have HR0_1 := Aside0.mk hr0_1
 have HC0_1 := Aside0.mk hc0_1
 clear hr0_1 hc0_1
 have HR0_2 := Aside0.mk hr0_2
 have HC0_2 := Aside0.mk hc0_2
 clear hr0_2 hc0_2
 have HB := Aside0.mk (Below.refl w.heap.size w)
 have H : ((spans_checkPoints.f l0_0 l0_1 l0_2 a1_0 a1_1 a2_0 a2_1).bind fun t242 => (if t242 = 0 then ((spans_extremes.f l0_0 l0_1 l0_2 a1_0 a1_1 a2_0 a2_1).bind fun bt243 => ((spans_floor.f bt243.2.2.1 bt243.2.2.2.1).bind fun t253 => ((spans_value_up.f bt243.2.2.2.2.2.2.1 bt243.2.2.2.2.2.2.2).bind fun t254 => (some (t253, t254, 0))))) else (some (0, 0, t242)))) = some (r1, r2, r3) := h
 clear h
 replace H := Option.bind_eq_some_iff.mp H
 obtain ⟨t242, A40, H⟩ := H
 replace H : (if t242 = 0 then ((spans_extremes.f l0_0 l0_1 l0_2 a1_0 a1_1 a2_0 a2_1).bind fun bt243 => ((spans_floor.f bt243.2.2.1 bt243.2.2.2.1).bind fun t253 => ((spans_value_up.f bt243.2.2.2.2.2.2.1 bt243.2.2.2.2.2.2.2).bind fun t254 => (some (t253, t254, 0))))) else (some (0, 0, t242))) = some (r1, r2, r3) := H
 have A4 := Aside0.mk A40
 clear A40
 by_cases c5 : t242 = 0
 ·
  rw [if_pos c5] at H
  have c5b0 : (t242 == 0) = true := beq_iff_eq.mpr c5
  have c5b1 : (t242 != 0) = false := bne_eq_false_iff_eq.mpr c5
  clear c5
  replace H := Option.bind_eq_some_iff.mp H
  obtain ⟨⟨t243, t244, t245, t246, t247, t248, t249, t250⟩, A60, H⟩ := H
  replace H : ((spans_floor.f t245 t246).bind fun t253 => ((spans_value_up.f t249 t250).bind fun t254 => (some (t253, t254, 0)))) = some (r1, r2, r3) := H
  have A6 := Aside0.mk A60
  clear A60
  replace H := Option.bind_eq_some_iff.mp H
  obtain ⟨t253, A70, H⟩ := H
  replace H : ((spans_value_up.f t249 t250).bind fun t254 => (some (t253, t254, 0))) = some (r1, r2, r3) := H
  have A7 := Aside0.mk A70
  clear A70
  replace H := Option.bind_eq_some_iff.mp H
  obtain ⟨t254, A80, H⟩ := H
  replace H : (some (t253, t254, 0)) = some (r1, r2, r3) := H
  have A8 := Aside0.mk A80
  clear A80
  simp only [Option.some.injEq, Prod.mk.injEq] at H
  obtain ⟨rfl, rfl, rfl⟩ := H
  go_enter Try.func30, Try.ntmps30
  try go_wp2_with (first | ((with_reducible refine gate_dst (N := 3) rfl ?_); refine box_event ?hg (N := 3) ?hd (cs := #[.slice A0_0 l0_0.length c0_0, .slice A0_1 l0_1.length c0_1, .slice A0_2 l0_2.length c0_2]) (t := 25) ?hr ?_; (case hd => rfl); (case hg => rfl); (case hr => first | (go_simp; done) | (go_simp; rfl)); intro gb238 hg w9 hbox hb; have n0_ := Aside0.mk (below_step (bl_ HB.out) hb); have n1_ := Aside0.mk (hbox); have n2_ := Aside0.mk (szl_ hg HB.out); have n3_ := Aside0.mk (szl_ hg HB.out); clear HB; have HB := n0_; have BK238 := n1_; have GW238 := n2_; have GE238 := n3_; clear n0_ n1_ n2_ n3_ hb hbox hg) | ((with_reducible refine gate_dst (N := 4) rfl ?_); refine box_event ?hg (N := 4) ?hd (cs := #[.int .i64 a1_0, .int .i64 a1_1]) (t := 27) ?hr ?_; (case hd => rfl); (case hg => rfl); (case hr => first | (go_simp; done) | (go_simp; rfl)); intro gb239 hg w10 hbox hb; have n0_ := Aside0.mk (blk_below (bk_ BK238.out) hb); have n1_ := Aside0.mk (below_step (bl_ HB.out) hb); have n2_ := Aside0.mk (hbox); have n3_ := Aside0.mk (szl_ hg HB.out); have n4_ := Aside0.mk (szl_ hg HB.out); have n5_ := Aside0.mk (nel_ hg BK238.out); have n6_ := Aside0.mk (ner_ hg BK238.out); clear BK238 HB; have BK238 := n0_; have HB := n1_; have BK239 := n2_; have GW239 := n3_; have GE239 := n4_; have NB238_239 := n5_; have NB239_238 := n6_; clear n0_ n1_ n2_ n3_ n4_ n5_ n6_ hb hbox hg) | ((with_reducible refine gate_dst (N := 5) rfl ?_); refine box_event ?hg (N := 5) ?hd (cs := #[.int .i64 a2_0, .int .i64 a2_1]) (t := 27) ?hr ?_; (case hd => rfl); (case hg => rfl); (case hr => first | (go_simp; done) | (go_simp; rfl)); intro gb240 hg w11 hbox hb; have n0_ := Aside0.mk (blk_below (bk_ BK238.out) hb); have n1_ := Aside0.mk (blk_below (bk_ BK239.out) hb); have n2_ := Aside0.mk (below_step (bl_ HB.out) hb); have n3_ := Aside0.mk (hbox); have n4_ := Aside0.mk (szl_ hg HB.out); have n5_ := Aside0.mk (szl_ hg HB.out); have n6_ := Aside0.mk (nel_ hg BK238.out); have n7_ := Aside0.mk (ner_ hg BK238.out); have n8_ := Aside0.mk (nel_ hg BK239.out); have n9_ := Aside0.mk (ner_ hg BK239.out); clear BK238 BK239 HB; have BK238 := n0_; have BK239 := n1_; have HB := n2_; have BK240 := n3_; have GW240 := n4_; have GE240 := n5_; have NB238_240 := n6_; have NB240_238 := n7_; have NB239_240 := n8_; have NB240_239 := n9_; clear n0_ n1_ n2_ n3_ n4_ n5_ n6_ n7_ n8_ n9_ hb hbox hg) | ((with_reducible refine gate_dst (N := 6) rfl ?_); refine box_event ?hg (N := 6) ?hd (cs := #[.int .i64 0, .int .i64 0]) (t := 27) ?hr ?_; (case hd => rfl); (case hg => rfl); (case hr => first | (go_simp; done) | (go_simp; rfl)); intro gb241 hg w12 hbox hb; have n0_ := Aside0.mk (blk_below (bk_ BK238.out) hb); have n1_ := Aside0.mk (blk_below (bk_ BK239.out) hb); have n2_ := Aside0.mk (blk_below (bk_ BK240.out) hb); have n3_ := Aside0.mk (below_step (bl_ HB.out) hb); have n4_ := Aside0.mk (hbox); have n5_ := Aside0.mk (szl_ hg HB.out); have n6_ := Aside0.mk (szl_ hg HB.out); have n7_ := Aside0.mk (nel_ hg BK238.out); have n8_ := Aside0.mk (ner_ hg BK238.out); have n9_ := Aside0.mk (nel_ hg BK239.out); have n10_ := Aside0.mk (ner_ hg BK239.out); have n11_ := Aside0.mk (nel_ hg BK240.out); have n12_ := Aside0.mk (ner_ hg BK240.out); clear BK238 BK239 BK240 HB; have BK238 := n0_; have BK239 := n1_; have BK240 := n2_; have HB := n3_; have BK241 := n4_; have GW241 := n5_; have GE241 := n6_; have NB238_241 := n7_; have NB241_238 := n8_; have NB239_241 := n9_; have NB241_239 := n10_; have NB240_241 := n11_; have NB241_240 := n12_; clear n0_ n1_ n2_ n3_ n4_ n5_ n6_ n7_ n8_ n9_ n10_ n11_ n12_ hb hbox hg; have hnb13 := NB238_239.out; have hnc13 := NB239_238.out; have hnb14 := NB238_240.out; have hnc14 := NB240_238.out; have hnb15 := NB238_241.out; have hnc15 := NB241_238.out; have hcz16_0 : w12.cell? ⟨gb238, 0, none⟩ = some (.slice A0_0 l0_0.length c0_0) := (blk_cell BK238.out 0).trans rfl; have hcz16_1 : w12.cell? ⟨gb238, 1, none⟩ = some (.slice A0_1 l0_1.length c0_1) := (blk_cell BK238.out 1).trans rfl; have hcz16_2 : w12.cell? ⟨gb238, 2, none⟩ = some (.slice A0_2 l0_2.length c0_2) := (blk_cell BK238.out 2).trans rfl; have hfz16_0 := blk_frozen BK238.out 0; have hfz16_1 := blk_frozen BK238.out 1; have hfz16_2 := blk_frozen BK238.out 2; have hnb17 := NB239_240.out; have hnc17 := NB240_239.out; have hnb18 := NB239_241.out; have hnc18 := NB241_239.out; have hcz19_0 : w12.cell? ⟨gb239, 0, none⟩ = some (.int .i64 a1_0) := (blk_cell BK239.out 0).trans rfl; have hcz19_1 : w12.cell? ⟨gb239, 1, none⟩ = some (.int .i64 a1_1) := (blk_cell BK239.out 1).trans rfl; have hfz19_0 := blk_frozen BK239.out 0; have hfz19_1 := blk_frozen BK239.out 1; have hnb20 := NB240_241.out; have hnc20 := NB241_240.out; have hcz21_0 : w12.cell? ⟨gb240, 0, none⟩ = some (.int .i64 a2_0) := (blk_cell BK240.out 0).trans rfl; have hcz21_1 : w12.cell? ⟨gb240, 1, none⟩ = some (.int .i64 a2_1) := (blk_cell BK240.out 1).trans rfl; have hfz21_0 := blk_frozen BK240.out 0; have hfz21_1 := blk_frozen BK240.out 1) | ((with_reducible refine gate_callee (f := 88) rfl ?_); refine goesL_ (some 14) rfl rfl Try.func88 (by kernel_rfl) rfl #[.agg #[.slice A0_0 l0_0.length c0_0, .slice A0_1 l0_1.length c0_1, .slice A0_2 l0_2.length c0_2], .agg #[.int .i64 a1_0, .int .i64 a1_1], .agg #[.int .i64 a2_0, .int .i64 a2_1]] rfl (by (try simp only [List.map_toArray, List.map_cons, List.map_nil]); first | done | rfl | (simp only [List.length_drop, List.length_take]; rfl)) ?_; (with_reducible refine (spans_checkPoints.calls _ _ l0_0 _ _ l0_1 _ _ l0_2 a1_0 a1_1 a2_0 a2_1 t242 _ ?side1 ?side2 ?side3 ?side4 ?side5 ?side6 A4.out).mono ?_); (case side1 => exact cr_ (Kd.C_below HR0_0.out HB.out)); (case side2 => exact HC0_0.out); (case side3 => exact cr_ (Kd.C_below HR0_1.out HB.out)); (case side4 => exact HC0_1.out); (case side5 => exact cr_ (Kd.C_below HR0_2.out HB.out)); (case side6 => exact HC0_2.out); rintro e w22 ⟨rfl, hb⟩; refine ⟨_, rfl, ?_⟩; have n0_ := Aside0.mk (blk_below (bk_ BK238.out) hb); have n1_ := Aside0.mk (blk_below (bk_ BK239.out) hb); have n2_ := Aside0.mk (blk_below (bk_ BK240.out) hb); have n3_ := Aside0.mk (blk_below (bk_ BK241.out) hb); have n4_ := Aside0.mk (below_step (bl_ HB.out) hb); clear BK238 BK239 BK240 BK241 HB; have BK238 := n0_; have BK239 := n1_; have BK240 := n2_; have BK241 := n3_; have HB := n4_; clear n0_ n1_ n2_ n3_ n4_; (try clear hb); (try clear hb2); (try clear hk); (try clear hi); have hcz23_0 : w22.cell? ⟨gb238, 0, none⟩ = some (.slice A0_0 l0_0.length c0_0) := (blk_cell BK238.out 0).trans rfl; have hcz23_1 : w22.cell? ⟨gb238, 1, none⟩ = some (.slice A0_1 l0_1.length c0_1) := (blk_cell BK238.out 1).trans rfl; have hcz23_2 : w22.cell? ⟨gb238, 2, none⟩ = some (.slice A0_2 l0_2.length c0_2) := (blk_cell BK238.out 2).trans rfl; have hfz23_0 := blk_frozen BK238.out 0; have hfz23_1 := blk_frozen BK238.out 1; have hfz23_2 := blk_frozen BK238.out 2; have hcz24_0 : w22.cell? ⟨gb239, 0, none⟩ = some (.int .i64 a1_0) := (blk_cell BK239.out 0).trans rfl; have hcz24_1 : w22.cell? ⟨gb239, 1, none⟩ = some (.int .i64 a1_1) := (blk_cell BK239.out 1).trans rfl; have hfz24_0 := blk_frozen BK239.out 0; have hfz24_1 := blk_frozen BK239.out 1; have hcz25_0 : w22.cell? ⟨gb240, 0, none⟩ = some (.int .i64 a2_0) := (blk_cell BK240.out 0).trans rfl; have hcz25_1 : w22.cell? ⟨gb240, 1, none⟩ = some (.int .i64 a2_1) := (blk_cell BK240.out 1).trans rfl; have hfz25_0 := blk_frozen BK240.out 0; have hfz25_1 := blk_frozen BK240.out 1) | ((with_reducible refine gate_callee (f := 89) rfl ?_); refine goesL_ (some 23) rfl rfl Try.func89 (by kernel_rfl) rfl #[.agg #[.slice A0_0 l0_0.length c0_0, .slice A0_1 l0_1.length c0_1, .slice A0_2 l0_2.length c0_2], .agg #[.int .i64 a1_0, .int .i64 a1_1], .agg #[.int .i64 a2_0, .int .i64 a2_1]] rfl (by (try simp only [List.map_toArray, List.map_cons, List.map_nil]); first | done | rfl | (simp only [List.length_drop, List.length_take]; rfl)) ?_; (with_reducible refine (spans_extremes.calls _ _ l0_0 _ _ l0_1 _ _ l0_2 a1_0 a1_1 a2_0 a2_1 t243 t244 t245 t246 t247 t248 t249 t250 _ ?side1 ?side2 ?side3 ?side4 ?side5 ?side6 A6.out).mono ?_); (case side1 => exact cr_ (Kd.C_below HR0_0.out HB.out)); (case side2 => exact HC0_0.out); (case side3 => exact cr_ (Kd.C_below HR0_1.out HB.out)); (case side4 => exact HC0_1.out); (case side5 => exact cr_ (Kd.C_below HR0_2.out HB.out)); (case side6 => exact HC0_2.out); rintro e w26 ⟨rfl, hb⟩; refine ⟨_, rfl, ?_⟩; have n0_ := Aside0.mk (blk_below (bk_ BK238.out) hb); have n1_ := Aside0.mk (blk_below (bk_ BK239.out) hb); have n2_ := Aside0.mk (blk_below (bk_ BK240.out) hb); have n3_ := Aside0.mk (blk_below (bk_ BK241.out) hb); have n4_ := Aside0.mk (below_step (bl_ HB.out) hb); clear BK238 BK239 BK240 BK241 HB; have BK238 := n0_; have BK239 := n1_; have BK240 := n2_; have BK241 := n3_; have HB := n4_; clear n0_ n1_ n2_ n3_ n4_; (try clear hb); (try clear hb2); (try clear hk); (try clear hi)) | ((with_reducible refine gate_dst (N := 9) rfl ?_); refine box_event ?hg (N := 9) ?hd (cs := #[.int .i64 0, .int .i64 0, .int .i64 0, .int .i64 0]) (t := 133) ?hr ?_; (case hd => rfl); (case hg => rfl); (case hr => first | (go_simp; done) | (go_simp; rfl)); intro gb251 hg w27 hbox hb; have n0_ := Aside0.mk (blk_below (bk_ BK238.out) hb); have n1_ := Aside0.mk (blk_below (bk_ BK239.out) hb); have n2_ := Aside0.mk (blk_below (bk_ BK240.out) hb); have n3_ := Aside0.mk (blk_below (bk_ BK241.out) hb); have n4_ := Aside0.mk (below_step (bl_ HB.out) hb); have n5_ := Aside0.mk (hbox); have n6_ := Aside0.mk (szl_ hg HB.out); have n7_ := Aside0.mk (szl_ hg HB.out); have n8_ := Aside0.mk (nel_ hg BK238.out); have n9_ := Aside0.mk (ner_ hg BK238.out); have n10_ := Aside0.mk (nel_ hg BK239.out); have n11_ := Aside0.mk (ner_ hg BK239.out); have n12_ := Aside0.mk (nel_ hg BK240.out); have n13_ := Aside0.mk (ner_ hg BK240.out); have n14_ := Aside0.mk (nel_ hg BK241.out); have n15_ := Aside0.mk (ner_ hg BK241.out); clear BK238 BK239 BK240 BK241 HB; have BK238 := n0_; have BK239 := n1_; have BK240 := n2_; have BK241 := n3_; have HB := n4_; have BK251 := n5_; have GW251 := n6_; have GE251 := n7_; have NB238_251 := n8_; have NB251_238 := n9_; have NB239_251 := n10_; have NB251_239 := n11_; have NB240_251 := n12_; have NB251_240 := n13_; have NB241_251 := n14_; have NB251_241 := n15_; clear n0_ n1_ n2_ n3_ n4_ n5_ n6_ n7_ n8_ n9_ n10_ n11_ n12_ n13_ n14_ n15_ hb hbox hg) | ((with_reducible refine gate_dst (N := 10) rfl ?_); refine box_event ?hg (N := 10) ?hd (cs := #[.int .i64 0, .int .i64 0, .int .i64 0, .int .i64 0]) (t := 133) ?hr ?_; (case hd => rfl); (case hg => rfl); (case hr => first | (go_simp; done) | (go_simp; rfl)); intro gb252 hg w28 hbox hb; have n0_ := Aside0.mk (blk_below (bk_ BK238.out) hb); have n1_ := Aside0.mk (blk_below (bk_ BK239.out) hb); have n2_ := Aside0.mk (blk_below (bk_ BK240.out) hb); have n3_ := Aside0.mk (blk_below (bk_ BK241.out) hb); have n4_ := Aside0.mk (blk_below (bk_ BK251.out) hb); have n5_ := Aside0.mk (below_step (bl_ HB.out) hb); have n6_ := Aside0.mk (hbox); have n7_ := Aside0.mk (szl_ hg HB.out); have n8_ := Aside0.mk (szl_ hg HB.out); have n9_ := Aside0.mk (nel_ hg BK238.out); have n10_ := Aside0.mk (ner_ hg BK238.out); have n11_ := Aside0.mk (nel_ hg BK239.out); have n12_ := Aside0.mk (ner_ hg BK239.out); have n13_ := Aside0.mk (nel_ hg BK240.out); have n14_ := Aside0.mk (ner_ hg BK240.out); have n15_ := Aside0.mk (nel_ hg BK241.out); have n16_ := Aside0.mk (ner_ hg BK241.out); have n17_ := Aside0.mk (nel_ hg BK251.out); have n18_ := Aside0.mk (ner_ hg BK251.out); clear BK238 BK239 BK240 BK241 BK251 HB; have BK238 := n0_; have BK239 := n1_; have BK240 := n2_; have BK241 := n3_; have BK251 := n4_; have HB := n5_; have BK252 := n6_; have GW252 := n7_; have GE252 := n8_; have NB238_252 := n9_; have NB252_238 := n10_; have NB239_252 := n11_; have NB252_239 := n12_; have NB240_252 := n13_; have NB252_240 := n14_; have NB241_252 := n15_; have NB252_241 := n16_; have NB251_252 := n17_; have NB252_251 := n18_; clear n0_ n1_ n2_ n3_ n4_ n5_ n6_ n7_ n8_ n9_ n10_ n11_ n12_ n13_ n14_ n15_ n16_ n17_ n18_ hb hbox hg; have hnb29 := NB251_238.out; have hnc29 := NB238_251.out; have hnb30 := NB251_239.out; have hnc30 := NB239_251.out; have hnb31 := NB251_240.out; have hnc31 := NB240_251.out; have hnb32 := NB251_241.out; have hnc32 := NB241_251.out; have hnb33 := NB251_252.out; have hnc33 := NB252_251.out; have hcz34_0 : w28.cell? ⟨gb251, 0, none⟩ = some (.int .i64 0) := (blk_cell BK251.out 0).trans rfl; have hcz34_1 : w28.cell? ⟨gb251, 1, none⟩ = some (.int .i64 0) := (blk_cell BK251.out 1).trans rfl; have hcz34_2 : w28.cell? ⟨gb251, 2, none⟩ = some (.int .i64 0) := (blk_cell BK251.out 2).trans rfl; have hcz34_3 : w28.cell? ⟨gb251, 3, none⟩ = some (.int .i64 0) := (blk_cell BK251.out 3).trans rfl; have hfz34_0 := blk_frozen BK251.out 0; have hfz34_1 := blk_frozen BK251.out 1; have hfz34_2 := blk_frozen BK251.out 2; have hfz34_3 := blk_frozen BK251.out 3; have hnb35 := NB252_238.out; have hnc35 := NB238_252.out; have hnb36 := NB252_239.out; have hnc36 := NB239_252.out; have hnb37 := NB252_240.out; have hnc37 := NB240_252.out; have hnb38 := NB252_241.out; have hnc38 := NB241_252.out; have hcz39_0 : w28.cell? ⟨gb252, 0, none⟩ = some (.int .i64 0) := (blk_cell BK252.out 0).trans rfl; have hcz39_1 : w28.cell? ⟨gb252, 1, none⟩ = some (.int .i64 0) := (blk_cell BK252.out 1).trans rfl; have hcz39_2 : w28.cell? ⟨gb252, 2, none⟩ = some (.int .i64 0) := (blk_cell BK252.out 2).trans rfl; have hcz39_3 : w28.cell? ⟨gb252, 3, none⟩ = some (.int .i64 0) := (blk_cell BK252.out 3).trans rfl; have hfz39_0 := blk_frozen BK252.out 0; have hfz39_1 := blk_frozen BK252.out 1; have hfz39_2 := blk_frozen BK252.out 2; have hfz39_3 := blk_frozen BK252.out 3))
  have n0_ : Aside0 (((((((((w28.setCell ⟨gb251, 0, none⟩ (.int .i64 t243)).setCell ⟨gb251, 1, none⟩ (.int .i64 t244)).setCell ⟨gb251, 2, none⟩ (.int .i64 t245)).setCell ⟨gb251, 3, none⟩ (.int .i64 t246)).setCell ⟨gb252, 0, none⟩ (.int .i64 t247)).setCell ⟨gb252, 1, none⟩ (.int .i64 t248)).setCell ⟨gb252, 2, none⟩ (.int .i64 t249)).setCell ⟨gb252, 3, none⟩ (.int .i64 t250)).heap[gb238]? = some (.cells #[.slice A0_0 l0_0.length c0_0, .slice A0_1 l0_1.length c0_1, .slice A0_2 l0_2.length c0_2] 25 (0, 0))) := ⟨by (with_reducible repeat (first | refine blk_drewN ?_ _ | refine blk_drew ?_ | refine blk_alloc ?_ _)); refine blk_far ?_ NB238_252.out _; (with_reducible repeat (first | refine blk_drewN ?_ _ | refine blk_drew ?_ | refine blk_alloc ?_ _)); refine blk_far ?_ NB238_252.out _; (with_reducible repeat (first | refine blk_drewN ?_ _ | refine blk_drew ?_ | refine blk_alloc ?_ _)); refine blk_far ?_ NB238_252.out _; (with_reducible repeat (first | refine blk_drewN ?_ _ | refine blk_drew ?_ | refine blk_alloc ?_ _)); refine blk_far ?_ NB238_252.out _; (with_reducible repeat (first | refine blk_drewN ?_ _ | refine blk_drew ?_ | refine blk_alloc ?_ _)); refine blk_far ?_ NB238_251.out _; (with_reducible repeat (first | refine blk_drewN ?_ _ | refine blk_drew ?_ | refine blk_alloc ?_ _)); refine blk_far ?_ NB238_251.out _; (with_reducible repeat (first | refine blk_drewN ?_ _ | refine blk_drew ?_ | refine blk_alloc ?_ _)); refine blk_far ?_ NB238_251.out _; (with_reducible repeat (first | refine blk_drewN ?_ _ | refine blk_drew ?_ | refine blk_alloc ?_ _)); refine blk_far ?_ NB238_251.out _; (with_reducible repeat (first | refine blk_drewN ?_ _ | refine blk_drew ?_ | refine blk_alloc ?_ _)); exact BK238.out⟩
  have n1_ : Aside0 (((((((((w28.setCell ⟨gb251, 0, none⟩ (.int .i64 t243)).setCell ⟨gb251, 1, none⟩ (.int .i64 t244)).setCell ⟨gb251, 2, none⟩ (.int .i64 t245)).setCell ⟨gb251, 3, none⟩ (.int .i64 t246)).setCell ⟨gb252, 0, none⟩ (.int .i64 t247)).setCell ⟨gb252, 1, none⟩ (.int .i64 t248)).setCell ⟨gb252, 2, none⟩ (.int .i64 t249)).setCell ⟨gb252, 3, none⟩ (.int .i64 t250)).heap[gb239]? = some (.cells #[.int .i64 a1_0, .int .i64 a1_1] 27 (0, 0))) := ⟨by (with_reducible repeat (first | refine blk_drewN ?_ _ | refine blk_drew ?_ | refine blk_alloc ?_ _)); refine blk_far ?_ NB239_252.out _; (with_reducible repeat (first | refine blk_drewN ?_ _ | refine blk_drew ?_ | refine blk_alloc ?_ _)); refine blk_far ?_ NB239_252.out _; (with_reducible repeat (first | refine blk_drewN ?_ _ | refine blk_drew ?_ | refine blk_alloc ?_ _)); refine blk_far ?_ NB239_252.out _; (with_reducible repeat (first | refine blk_drewN ?_ _ | refine blk_drew ?_ | refine blk_alloc ?_ _)); refine blk_far ?_ NB239_252.out _; (with_reducible repeat (first | refine blk_drewN ?_ _ | refine blk_drew ?_ | refine blk_alloc ?_ _)); refine blk_far ?_ NB239_251.out _; (with_reducible repeat (first | refine blk_drewN ?_ _ | refine blk_drew ?_ | refine blk_alloc ?_ _)); refine blk_far ?_ NB239_251.out _; (with_reducible repeat (first | refine blk_drewN ?_ _ | refine blk_drew ?_ | refine blk_alloc ?_ _)); refine blk_far ?_ NB239_251.out _; (with_reducible repeat (first | refine blk_drewN ?_ _ | refine blk_drew ?_ | refine blk_alloc ?_ _)); refine blk_far ?_ NB239_251.out _; (with_reducible repeat (first | refine blk_drewN ?_ _ | refine blk_drew ?_ | refine blk_alloc ?_ _)); exact BK239.out⟩
  have n2_ : Aside0 (((((((((w28.setCell ⟨gb251, 0, none⟩ (.int .i64 t243)).setCell ⟨gb251, 1, none⟩ (.int .i64 t244)).setCell ⟨gb251, 2, none⟩ (.int .i64 t245)).setCell ⟨gb251, 3, none⟩ (.int .i64 t246)).setCell ⟨gb252, 0, none⟩ (.int .i64 t247)).setCell ⟨gb252, 1, none⟩ (.int .i64 t248)).setCell ⟨gb252, 2, none⟩ (.int .i64 t249)).setCell ⟨gb252, 3, none⟩ (.int .i64 t250)).heap[gb240]? = some (.cells #[.int .i64 a2_0, .int .i64 a2_1] 27 (0, 0))) := ⟨by (with_reducible repeat (first | refine blk_drewN ?_ _ | refine blk_drew ?_ | refine blk_alloc ?_ _)); refine blk_far ?_ NB240_252.out _; (with_reducible repeat (first | refine blk_drewN ?_ _ | refine blk_drew ?_ | refine blk_alloc ?_ _)); refine blk_far ?_ NB240_252.out _; (with_reducible repeat (first | refine blk_drewN ?_ _ | refine blk_drew ?_ | refine blk_alloc ?_ _)); refine blk_far ?_ NB240_252.out _; (with_reducible repeat (first | refine blk_drewN ?_ _ | refine blk_drew ?_ | refine blk_alloc ?_ _)); refine blk_far ?_ NB240_252.out _; (with_reducible repeat (first | refine blk_drewN ?_ _ | refine blk_drew ?_ | refine blk_alloc ?_ _)); refine blk_far ?_ NB240_251.out _; (with_reducible repeat (first | refine blk_drewN ?_ _ | refine blk_drew ?_ | refine blk_alloc ?_ _)); refine blk_far ?_ NB240_251.out _; (with_reducible repeat (first | refine blk_drewN ?_ _ | refine blk_drew ?_ | refine blk_alloc ?_ _)); refine blk_far ?_ NB240_251.out _; (with_reducible repeat (first | refine blk_drewN ?_ _ | refine blk_drew ?_ | refine blk_alloc ?_ _)); refine blk_far ?_ NB240_251.out _; (with_reducible repeat (first | refine blk_drewN ?_ _ | refine blk_drew ?_ | refine blk_alloc ?_ _)); exact BK240.out⟩
  have n3_ : Aside0 (((((((((w28.setCell ⟨gb251, 0, none⟩ (.int .i64 t243)).setCell ⟨gb251, 1, none⟩ (.int .i64 t244)).setCell ⟨gb251, 2, none⟩ (.int .i64 t245)).setCell ⟨gb251, 3, none⟩ (.int .i64 t246)).setCell ⟨gb252, 0, none⟩ (.int .i64 t247)).setCell ⟨gb252, 1, none⟩ (.int .i64 t248)).setCell ⟨gb252, 2, none⟩ (.int .i64 t249)).setCell ⟨gb252, 3, none⟩ (.int .i64 t250)).heap[gb241]? = some (.cells #[.int .i64 0, .int .i64 0] 27 (0, 0))) := ⟨by (with_reducible repeat (first | refine blk_drewN ?_ _ | refine blk_drew ?_ | refine blk_alloc ?_ _)); refine blk_far ?_ NB241_252.out _; (with_reducible repeat (first | refine blk_drewN ?_ _ | refine blk_drew ?_ | refine blk_alloc ?_ _)); refine blk_far ?_ NB241_252.out _; (with_reducible repeat (first | refine blk_drewN ?_ _ | refine blk_drew ?_ | refine blk_alloc ?_ _)); refine blk_far ?_ NB241_252.out _; (with_reducible repeat (first | refine blk_drewN ?_ _ | refine blk_drew ?_ | refine blk_alloc ?_ _)); refine blk_far ?_ NB241_252.out _; (with_reducible repeat (first | refine blk_drewN ?_ _ | refine blk_drew ?_ | refine blk_alloc ?_ _)); refine blk_far ?_ NB241_251.out _; (with_reducible repeat (first | refine blk_drewN ?_ _ | refine blk_drew ?_ | refine blk_alloc ?_ _)); refine blk_far ?_ NB241_251.out _; (with_reducible repeat (first | refine blk_drewN ?_ _ | refine blk_drew ?_ | refine blk_alloc ?_ _)); refine blk_far ?_ NB241_251.out _; (with_reducible repeat (first | refine blk_drewN ?_ _ | refine blk_drew ?_ | refine blk_alloc ?_ _)); refine blk_far ?_ NB241_251.out _; (with_reducible repeat (first | refine blk_drewN ?_ _ | refine blk_drew ?_ | refine blk_alloc ?_ _)); exact BK241.out⟩
  have n4_ : Aside0 (((((((((w28.setCell ⟨gb251, 0, none⟩ (.int .i64 t243)).setCell ⟨gb251, 1, none⟩ (.int .i64 t244)).setCell ⟨gb251, 2, none⟩ (.int .i64 t245)).setCell ⟨gb251, 3, none⟩ (.int .i64 t246)).setCell ⟨gb252, 0, none⟩ (.int .i64 t247)).setCell ⟨gb252, 1, none⟩ (.int .i64 t248)).setCell ⟨gb252, 2, none⟩ (.int .i64 t249)).setCell ⟨gb252, 3, none⟩ (.int .i64 t250)).heap[gb251]? = some (.cells #[.int .i64 t243, .int .i64 t244, .int .i64 t245, .int .i64 t246] 133 (0, 0))) := ⟨by (with_reducible repeat (first | refine blk_drewN ?_ _ | refine blk_drew ?_ | refine blk_alloc ?_ _)); refine blk_far ?_ NB251_252.out _; (with_reducible repeat (first | refine blk_drewN ?_ _ | refine blk_drew ?_ | refine blk_alloc ?_ _)); refine blk_far ?_ NB251_252.out _; (with_reducible repeat (first | refine blk_drewN ?_ _ | refine blk_drew ?_ | refine blk_alloc ?_ _)); refine blk_far ?_ NB251_252.out _; (with_reducible repeat (first | refine blk_drewN ?_ _ | refine blk_drew ?_ | refine blk_alloc ?_ _)); refine blk_far ?_ NB251_252.out _; (with_reducible repeat (first | refine blk_drewN ?_ _ | refine blk_drew ?_ | refine blk_alloc ?_ _)); refine blk_put (cs := #[.int .i64 t243, .int .i64 t244, .int .i64 t245, .int .i64 0]) ?_ 3 _ rfl; (with_reducible repeat (first | refine blk_drewN ?_ _ | refine blk_drew ?_ | refine blk_alloc ?_ _)); refine blk_put (cs := #[.int .i64 t243, .int .i64 t244, .int .i64 0, .int .i64 0]) ?_ 2 _ rfl; (with_reducible repeat (first | refine blk_drewN ?_ _ | refine blk_drew ?_ | refine blk_alloc ?_ _)); refine blk_put (cs := #[.int .i64 t243, .int .i64 0, .int .i64 0, .int .i64 0]) ?_ 1 _ rfl; (with_reducible repeat (first | refine blk_drewN ?_ _ | refine blk_drew ?_ | refine blk_alloc ?_ _)); refine blk_put (cs := #[.int .i64 0, .int .i64 0, .int .i64 0, .int .i64 0]) ?_ 0 _ rfl; (with_reducible repeat (first | refine blk_drewN ?_ _ | refine blk_drew ?_ | refine blk_alloc ?_ _)); exact BK251.out⟩
  have n5_ : Aside0 (((((((((w28.setCell ⟨gb251, 0, none⟩ (.int .i64 t243)).setCell ⟨gb251, 1, none⟩ (.int .i64 t244)).setCell ⟨gb251, 2, none⟩ (.int .i64 t245)).setCell ⟨gb251, 3, none⟩ (.int .i64 t246)).setCell ⟨gb252, 0, none⟩ (.int .i64 t247)).setCell ⟨gb252, 1, none⟩ (.int .i64 t248)).setCell ⟨gb252, 2, none⟩ (.int .i64 t249)).setCell ⟨gb252, 3, none⟩ (.int .i64 t250)).heap[gb252]? = some (.cells #[.int .i64 t247, .int .i64 t248, .int .i64 t249, .int .i64 t250] 133 (0, 0))) := ⟨by (with_reducible repeat (first | refine blk_drewN ?_ _ | refine blk_drew ?_ | refine blk_alloc ?_ _)); refine blk_put (cs := #[.int .i64 t247, .int .i64 t248, .int .i64 t249, .int .i64 0]) ?_ 3 _ rfl; (with_reducible repeat (first | refine blk_drewN ?_ _ | refine blk_drew ?_ | refine blk_alloc ?_ _)); refine blk_put (cs := #[.int .i64 t247, .int .i64 t248, .int .i64 0, .int .i64 0]) ?_ 2 _ rfl; (with_reducible repeat (first | refine blk_drewN ?_ _ | refine blk_drew ?_ | refine blk_alloc ?_ _)); refine blk_put (cs := #[.int .i64 t247, .int .i64 0, .int .i64 0, .int .i64 0]) ?_ 1 _ rfl; (with_reducible repeat (first | refine blk_drewN ?_ _ | refine blk_drew ?_ | refine blk_alloc ?_ _)); refine blk_put (cs := #[.int .i64 0, .int .i64 0, .int .i64 0, .int .i64 0]) ?_ 0 _ rfl; (with_reducible repeat (first | refine blk_drewN ?_ _ | refine blk_drew ?_ | refine blk_alloc ?_ _)); refine blk_far ?_ NB252_251.out _; (with_reducible repeat (first | refine blk_drewN ?_ _ | refine blk_drew ?_ | refine blk_alloc ?_ _)); refine blk_far ?_ NB252_251.out _; (with_reducible repeat (first | refine blk_drewN ?_ _ | refine blk_drew ?_ | refine blk_alloc ?_ _)); refine blk_far ?_ NB252_251.out _; (with_reducible repeat (first | refine blk_drewN ?_ _ | refine blk_drew ?_ | refine blk_alloc ?_ _)); refine blk_far ?_ NB252_251.out _; (with_reducible repeat (first | refine blk_drewN ?_ _ | refine blk_drew ?_ | refine blk_alloc ?_ _)); exact BK252.out⟩
  have n6_ : Aside0 (Below w.heap.size w ((((((((w28.setCell ⟨gb251, 0, none⟩ (.int .i64 t243)).setCell ⟨gb251, 1, none⟩ (.int .i64 t244)).setCell ⟨gb251, 2, none⟩ (.int .i64 t245)).setCell ⟨gb251, 3, none⟩ (.int .i64 t246)).setCell ⟨gb252, 0, none⟩ (.int .i64 t247)).setCell ⟨gb252, 1, none⟩ (.int .i64 t248)).setCell ⟨gb252, 2, none⟩ (.int .i64 t249)).setCell ⟨gb252, 3, none⟩ (.int .i64 t250))) := ⟨bl_ HB.out⟩
  (try clear BK238)
  (try clear BK239)
  (try clear BK240)
  (try clear BK241)
  (try clear BK251)
  (try clear BK252)
  (try clear HB)
  generalize ((((((((w28.setCell ⟨gb251, 0, none⟩ (.int .i64 t243)).setCell ⟨gb251, 1, none⟩ (.int .i64 t244)).setCell ⟨gb251, 2, none⟩ (.int .i64 t245)).setCell ⟨gb251, 3, none⟩ (.int .i64 t246)).setCell ⟨gb252, 0, none⟩ (.int .i64 t247)).setCell ⟨gb252, 1, none⟩ (.int .i64 t248)).setCell ⟨gb252, 2, none⟩ (.int .i64 t249)).setCell ⟨gb252, 3, none⟩ (.int .i64 t250)) = w40 at n0_ n1_ n2_ n3_ n4_ n5_ n6_ ⊢
  have BK238 := n0_
  have BK239 := n1_
  have BK240 := n2_
  have BK241 := n3_
  have BK251 := n4_
  have BK252 := n5_
  have HB := n6_
  clear n0_ n1_ n2_ n3_ n4_ n5_ n6_
  have n0_ := Aside0.mk (blk_drew BK238.out)
  have n1_ := Aside0.mk (blk_drew BK239.out)
  have n2_ := Aside0.mk (blk_drew BK240.out)
  have n3_ := Aside0.mk (blk_drew BK241.out)
  have n4_ := Aside0.mk (blk_drew BK251.out)
  have n5_ := Aside0.mk (blk_drew BK252.out)
  have n6_ := Aside0.mk (below_drew1 HB.out)
  clear BK238 BK239 BK240 BK241 BK251 BK252 HB
  have BK238 := n0_
  have BK239 := n1_
  have BK240 := n2_
  have BK241 := n3_
  have BK251 := n4_
  have BK252 := n5_
  have HB := n6_
  clear n0_ n1_ n2_ n3_ n4_ n5_ n6_
  refine start_ (n := 13) (S := fun w' => w'.cell? ⟨gb251, 0, none⟩ = some (.int .i64 t243) ∧ w'.cell? ⟨gb251, 1, none⟩ = some (.int .i64 t244) ∧ w'.cell? ⟨gb251, 2, none⟩ = some (.int .i64 t245) ∧ w'.cell? ⟨gb251, 3, none⟩ = some (.int .i64 t246) ∧ w'.cell? ⟨gb252, 0, none⟩ = some (.int .i64 t247) ∧ w'.cell? ⟨gb252, 1, none⟩ = some (.int .i64 t248) ∧ w'.cell? ⟨gb252, 2, none⟩ = some (.int .i64 t249) ∧ w'.cell? ⟨gb252, 3, none⟩ = some (.int .i64 t250)) (ds := []) #[false, false, false, false, false, false, false, false, false, false, false, false, false] (by kernel_rfl) rfl rfl ⟨(blk_cell BK251.out 0).trans rfl, (blk_cell BK251.out 1).trans rfl, (blk_cell BK251.out 2).trans rfl, (blk_cell BK251.out 3).trans rfl, (blk_cell BK252.out 0).trans rfl, (blk_cell BK252.out 1).trans rfl, (blk_cell BK252.out 2).trans rfl, (blk_cell BK252.out 3).trans rfl⟩ (fun hHeld => ?_); refine with_tabW spans_Bound.tab5 spans_Bound.bits5 (fun HT_ HW_ => ?_)
  generalize w40.drew = w41 at BK238 BK239 BK240 BK241 BK251 BK252 HB hHeld ⊢
  refine pure_ (i := 0) (N := some 26) (v := ?_) (a' := ?_) #[true, false, false, false, false, false, false, false, false, false, false, false, false] rfl rfl (any_of HT_.out (by kernel_rfl)) (fun _ _ _ h => h) (Or.inl ⟨by rfl, ?_⟩) ?_ ?_
  rotate_left
  ·
   intro w'
   go_simp
   with_reducible rfl
  rotate_left
  ·
   simp only [Act.put, List.setIfInBounds_toArray, List.set_cons_zero, List.set_cons_succ, i64_w, i32_w]
   rfl
  refine pure_ (i := 1) (N := some 27) (v := ?_) (a' := ?_) #[true, true, false, false, false, false, false, false, false, false, false, false, false] rfl rfl (any_of HT_.out (by kernel_rfl)) (fun _ _ _ h => h) (Or.inl ⟨by rfl, ?_⟩) ?_ ?_
  rotate_left
  ·
   intro w'
   go_simp
   with_reducible rfl
  rotate_left
  ·
   simp only [Act.put, List.setIfInBounds_toArray, List.set_cons_zero, List.set_cons_succ, i64_w, i32_w]
   rfl
  refine pure_ (i := 3) (N := some 29) (v := ?_) (a' := ?_) #[true, true, false, true, false, false, false, false, false, false, false, false, false] rfl rfl (any_of HT_.out (by kernel_rfl)) (fun _ _ _ h => h) (Or.inl ⟨by rfl, ?_⟩) ?_ ?_
  rotate_left
  ·
   intro w'
   go_simp
   with_reducible rfl
  rotate_left
  ·
   simp only [Act.put, List.setIfInBounds_toArray, List.set_cons_zero, List.set_cons_succ, i64_w, i32_w]
   rfl
  refine pure_ (i := 4) (N := some 30) (v := ?_) (a' := ?_) #[true, true, false, true, true, false, false, false, false, false, false, false, false] rfl rfl (any_of HT_.out (by kernel_rfl)) (fun _ _ _ h => h) (Or.inl ⟨by rfl, ?_⟩) ?_ ?_
  rotate_left
  ·
   intro w'
   go_simp
   with_reducible rfl
  rotate_left
  ·
   simp only [Act.put, List.setIfInBounds_toArray, List.set_cons_zero, List.set_cons_succ, i64_w, i32_w]
   rfl
  refine pure_ (i := 7) (N := some 33) (v := ?_) (a' := ?_) #[true, true, false, true, true, false, false, true, false, false, false, false, false] rfl rfl (any_of HT_.out (by kernel_rfl)) (fun _ _ _ h => h) (Or.inl ⟨by rfl, ?_⟩) ?_ ?_
  rotate_left
  ·
   intro w'
   go_simp
   with_reducible rfl
  rotate_left
  ·
   simp only [Act.put, List.setIfInBounds_toArray, List.set_cons_zero, List.set_cons_succ, i64_w, i32_w]
   rfl
  refine take_ (i := 2) (N := some 28) (v := ?_) (a' := ?_) #[true, true, true, true, true, false, false, true, false, false, false, false, false] rfl rfl (take_ofW HT_.out HW_.out (by kernel_rfl)) (fun _ _ _ h => h) (Or.inl ⟨by rfl, ?_⟩) hHeld ?_ ?_
  rotate_left
  ·
   rintro w' ⟨s0, s1, s2, s3, s4, s5, s6, s7⟩
   go_simp
   with_reducible rfl
  rotate_left
  ·
   simp only [Act.put, List.setIfInBounds_toArray, List.set_cons_zero, List.set_cons_succ, i64_w, i32_w]
   rfl
  refine take_ (i := 5) (N := some 31) (v := ?_) (a' := ?_) #[true, true, true, true, true, true, false, true, false, false, false, false, false] rfl rfl (take_ofW HT_.out HW_.out (by kernel_rfl)) (fun _ _ _ h => h) (Or.inl ⟨by rfl, ?_⟩) hHeld ?_ ?_
  rotate_left
  ·
   rintro w' ⟨s0, s1, s2, s3, s4, s5, s6, s7⟩
   go_simp
   with_reducible rfl
  rotate_left
  ·
   simp only [Act.put, List.setIfInBounds_toArray, List.set_cons_zero, List.set_cons_succ, i64_w, i32_w]
   rfl
  refine take_ (i := 8) (N := some 34) (v := ?_) (a' := ?_) #[true, true, true, true, true, true, false, true, true, false, false, false, false] rfl rfl (take_ofW HT_.out HW_.out (by kernel_rfl)) (fun _ _ _ h => h) (Or.inl ⟨by rfl, ?_⟩) hHeld ?_ ?_
  rotate_left
  ·
   rintro w' ⟨s0, s1, s2, s3, s4, s5, s6, s7⟩
   go_simp
   with_reducible rfl
  rotate_left
  ·
   simp only [Act.put, List.setIfInBounds_toArray, List.set_cons_zero, List.set_cons_succ, i64_w, i32_w]
   rfl
  refine one_ (i := 6) (N := some 32) #[true, true, true, true, true, true, true, true, true, false, false, false, false] rfl rfl (one_of HT_.out (by kernel_rfl)) (by decide) (fun K hK => ?_)
  refine goes_ Try.func100 (by kernel_rfl) rfl #[.int .i64 t245, .int .i64 t246] (by rfl) rfl rfl (by (try simp only [List.map_toArray, List.map_cons, List.map_nil]); first | done | rfl | (simp only [List.length_drop, List.length_take]; rfl)) ?_
  with_reducible refine (spans_floor.calls t245 t246 t253 _ A7.out).mono ?_
  rintro e w' ⟨rfl, ⟨nd, rfl⟩⟩
  refine ⟨_, rfl, ?_⟩
  refine hK.out _ _ ⟨(blk_cell BK251.out 0).trans rfl, (blk_cell BK251.out 1).trans rfl, (blk_cell BK251.out 2).trans rfl, (blk_cell BK251.out 3).trans rfl, (blk_cell BK252.out 0).trans rfl, (blk_cell BK252.out 1).trans rfl, (blk_cell BK252.out 2).trans rfl, (blk_cell BK252.out 3).trans rfl⟩ (fun hHeld => ?_)
  clear hK K
  refine norm_ (a' := ?_) ?_ ?_
  rotate_left
  ·
   show Act.put _ (some 32) _ = _
   simp only [Act.put, List.setIfInBounds_toArray, List.set_cons_zero, List.set_cons_succ, i64_w, i32_w]
   rfl
  refine one_ (i := 9) (N := some 35) #[true, true, true, true, true, true, true, true, true, true, false, false, false] rfl rfl (one_of HT_.out (by kernel_rfl)) (by decide) (fun K hK => ?_)
  refine goes_ Try.func90 (by kernel_rfl) rfl #[.agg #[.int .i64 t249, .int .i64 t250]] (by rfl) rfl rfl (by (try simp only [List.map_toArray, List.map_cons, List.map_nil]); first | done | rfl | (simp only [List.length_drop, List.length_take]; rfl)) ?_
  with_reducible refine (spans_value_up.calls t249 t250 t254 _ A8.out).mono ?_
  rintro e w42 ⟨rfl, hb⟩
  refine ⟨_, rfl, ?_⟩
  have n0_ := Aside0.mk (blk_below (bk_ BK238.out) hb)
  have n1_ := Aside0.mk (blk_below (bk_ BK239.out) hb)
  have n2_ := Aside0.mk (blk_below (bk_ BK240.out) hb)
  have n3_ := Aside0.mk (blk_below (bk_ BK241.out) hb)
  have n4_ := Aside0.mk (blk_below (bk_ BK251.out) hb)
  have n5_ := Aside0.mk (blk_below (bk_ BK252.out) hb)
  have n6_ := Aside0.mk (below_step (bl_ HB.out) hb)
  clear BK238 BK239 BK240 BK241 BK251 BK252 HB
  have BK238 := n0_
  have BK239 := n1_
  have BK240 := n2_
  have BK241 := n3_
  have BK251 := n4_
  have BK252 := n5_
  have HB := n6_
  clear n0_ n1_ n2_ n3_ n4_ n5_ n6_
  (try clear hb)
  (try clear hb2)
  (try clear hk)
  (try clear hi)
  refine hK.out _ _ ⟨(blk_cell BK251.out 0).trans rfl, (blk_cell BK251.out 1).trans rfl, (blk_cell BK251.out 2).trans rfl, (blk_cell BK251.out 3).trans rfl, (blk_cell BK252.out 0).trans rfl, (blk_cell BK252.out 1).trans rfl, (blk_cell BK252.out 2).trans rfl, (blk_cell BK252.out 3).trans rfl⟩ (fun hHeld => ?_)
  clear hK K
  refine norm_ (a' := ?_) ?_ ?_
  rotate_left
  ·
   show Act.put _ (some 35) _ = _
   simp only [Act.put, List.setIfInBounds_toArray, List.set_cons_zero, List.set_cons_succ, i64_w, i32_w]
   rfl
  refine pure_ (i := 10) (N := some 36) (v := ?_) (a' := ?_) #[true, true, true, true, true, true, true, true, true, true, true, false, false] rfl rfl (any_of HT_.out (by kernel_rfl)) (fun _ _ _ h => h) (Or.inl ⟨by rfl, ?_⟩) ?_ ?_
  rotate_left
  ·
   intro w'
   go_simp
   with_reducible rfl
  rotate_left
  ·
   simp only [Act.put, List.setIfInBounds_toArray, List.set_cons_zero, List.set_cons_succ, i64_w, i32_w]
   rfl
  refine one_ (i := 11) (N := none) #[true, true, true, true, true, true, true, true, true, true, true, true, false] rfl rfl (one_of HT_.out (by kernel_rfl)) (by decide) (fun K hK => ?_)
  have hs43 : w42.cell? ⟨gb241, 0, none⟩ = some (.int .i64 0) := (blk_cell BK241.out 0).trans rfl
  have hfs43 := blk_frozen BK241.out 0
  have hns43_0 := NB238_241.out
  have hns43_1 := NB239_241.out
  have hns43_2 := NB240_241.out
  have hns43_4 := NB251_241.out
  have hns43_5 := NB252_241.out
  have hms43_0 := NB241_238.out
  have hms43_1 := NB241_239.out
  have hms43_2 := NB241_240.out
  have hms43_4 := NB241_251.out
  have hms43_5 := NB241_252.out
  have hs44 : w42.cell? ⟨gb241, 1, none⟩ = some (.int .i64 0) := (blk_cell BK241.out 1).trans rfl
  have hfs44 := blk_frozen BK241.out 1
  have hns44_0 := NB238_241.out
  have hns44_1 := NB239_241.out
  have hns44_2 := NB240_241.out
  have hns44_4 := NB251_241.out
  have hns44_5 := NB252_241.out
  have hms44_0 := NB241_238.out
  have hms44_1 := NB241_239.out
  have hms44_2 := NB241_240.out
  have hms44_4 := NB241_251.out
  have hms44_5 := NB241_252.out
  refine skip_ (w1 := ?_) (by rfl) rfl ?_ ?_
  rotate_left
  ·
   go_simp
   rfl
  refine hK.out _ _ ⟨((cell_far (p := ⟨gb241, _, none⟩) NB251_241.out _).trans (((cell_far (p := ⟨gb241, _, none⟩) NB251_241.out _).trans (hHeld.1)))), ((cell_far (p := ⟨gb241, _, none⟩) NB251_241.out _).trans (((cell_far (p := ⟨gb241, _, none⟩) NB251_241.out _).trans (hHeld.2.1)))), ((cell_far (p := ⟨gb241, _, none⟩) NB251_241.out _).trans (((cell_far (p := ⟨gb241, _, none⟩) NB251_241.out _).trans (hHeld.2.2.1)))), ((cell_far (p := ⟨gb241, _, none⟩) NB251_241.out _).trans (((cell_far (p := ⟨gb241, _, none⟩) NB251_241.out _).trans (hHeld.2.2.2.1)))), ((cell_far (p := ⟨gb241, _, none⟩) NB252_241.out _).trans (((cell_far (p := ⟨gb241, _, none⟩) NB252_241.out _).trans (hHeld.2.2.2.2.1)))), ((cell_far (p := ⟨gb241, _, none⟩) NB252_241.out _).trans (((cell_far (p := ⟨gb241, _, none⟩) NB252_241.out _).trans (hHeld.2.2.2.2.2.1)))), ((cell_far (p := ⟨gb241, _, none⟩) NB252_241.out _).trans (((cell_far (p := ⟨gb241, _, none⟩) NB252_241.out _).trans (hHeld.2.2.2.2.2.2.1)))), ((cell_far (p := ⟨gb241, _, none⟩) NB252_241.out _).trans (((cell_far (p := ⟨gb241, _, none⟩) NB252_241.out _).trans (hHeld.2.2.2.2.2.2.2))))⟩ (fun hHeld => ?_)
  clear hK K
  refine pure_ (i := 12) (N := some 7) (v := ?_) (a' := ?_) #[true, true, true, true, true, true, true, true, true, true, true, true, true] rfl rfl (any_of HT_.out (by kernel_rfl)) (fun _ _ _ h => h) (Or.inl ⟨by rfl, ?_⟩) ?_ ?_
  rotate_left
  ·
   intro w'
   go_simp
   with_reducible rfl
  rotate_left
  ·
   simp only [Act.put, List.setIfInBounds_toArray, List.set_cons_zero, List.set_cons_succ, i64_w, i32_w]
   rfl
  refine done_ (done_of HT_.out (by kernel_rfl)) ?_
  try go_wp2
  refine bodyPost_ret (results_ct rfl _ _ gb241 27 #[.int .i64 t253, .int .i64 t254] (0, 0) _ rfl (by (with_reducible repeat (first | refine blk_drewN ?_ _ | refine blk_drew ?_ | refine blk_alloc ?_ _)); refine blk_put (cs := #[.int .i64 t253, .int .i64 0]) ?_ 1 _ rfl; (with_reducible repeat (first | refine blk_drewN ?_ _ | refine blk_drew ?_ | refine blk_alloc ?_ _)); refine blk_put (cs := #[.int .i64 0, .int .i64 0]) ?_ 0 _ rfl; (with_reducible repeat (first | refine blk_drewN ?_ _ | refine blk_drew ?_ | refine blk_alloc ?_ _)); exact BK241.out) Try.underlying27 rfl (by kernel_rfl)) rfl ?_
  exact ⟨by first | rfl | (simp [errW_none, errW_some] <;> rfl) | (simp [*, errW_none, errW_some] <;> rfl), bl_ HB.out⟩
 ·
  rw [if_neg c5] at H
  have c5b0 : (t242 == 0) = false := beq_eq_false_iff_ne.mpr c5
  have c5b1 : (t242 != 0) = true := bne_iff_ne.mpr c5
  simp only [Option.some.injEq, Prod.mk.injEq] at H
  obtain ⟨rfl, rfl, rfl⟩ := H
  go_enter Try.func30, Try.ntmps30
  go_wp2_with (first | ((with_reducible refine gate_dst (N := 3) rfl ?_); refine box_event ?hg (N := 3) ?hd (cs := #[.slice A0_0 l0_0.length c0_0, .slice A0_1 l0_1.length c0_1, .slice A0_2 l0_2.length c0_2]) (t := 25) ?hr ?_; (case hd => rfl); (case hg => rfl); (case hr => first | (go_simp; done) | (go_simp; rfl)); intro gb238 hg w45 hbox hb; have n0_ := Aside0.mk (below_step (bl_ HB.out) hb); have n1_ := Aside0.mk (hbox); have n2_ := Aside0.mk (szl_ hg HB.out); have n3_ := Aside0.mk (szl_ hg HB.out); clear HB; have HB := n0_; have BK238 := n1_; have GW238 := n2_; have GE238 := n3_; clear n0_ n1_ n2_ n3_ hb hbox hg) | ((with_reducible refine gate_dst (N := 4) rfl ?_); refine box_event ?hg (N := 4) ?hd (cs := #[.int .i64 a1_0, .int .i64 a1_1]) (t := 27) ?hr ?_; (case hd => rfl); (case hg => rfl); (case hr => first | (go_simp; done) | (go_simp; rfl)); intro gb239 hg w46 hbox hb; have n0_ := Aside0.mk (blk_below (bk_ BK238.out) hb); have n1_ := Aside0.mk (below_step (bl_ HB.out) hb); have n2_ := Aside0.mk (hbox); have n3_ := Aside0.mk (szl_ hg HB.out); have n4_ := Aside0.mk (szl_ hg HB.out); have n5_ := Aside0.mk (nel_ hg BK238.out); have n6_ := Aside0.mk (ner_ hg BK238.out); clear BK238 HB; have BK238 := n0_; have HB := n1_; have BK239 := n2_; have GW239 := n3_; have GE239 := n4_; have NB238_239 := n5_; have NB239_238 := n6_; clear n0_ n1_ n2_ n3_ n4_ n5_ n6_ hb hbox hg) | ((with_reducible refine gate_dst (N := 5) rfl ?_); refine box_event ?hg (N := 5) ?hd (cs := #[.int .i64 a2_0, .int .i64 a2_1]) (t := 27) ?hr ?_; (case hd => rfl); (case hg => rfl); (case hr => first | (go_simp; done) | (go_simp; rfl)); intro gb240 hg w47 hbox hb; have n0_ := Aside0.mk (blk_below (bk_ BK238.out) hb); have n1_ := Aside0.mk (blk_below (bk_ BK239.out) hb); have n2_ := Aside0.mk (below_step (bl_ HB.out) hb); have n3_ := Aside0.mk (hbox); have n4_ := Aside0.mk (szl_ hg HB.out); have n5_ := Aside0.mk (szl_ hg HB.out); have n6_ := Aside0.mk (nel_ hg BK238.out); have n7_ := Aside0.mk (ner_ hg BK238.out); have n8_ := Aside0.mk (nel_ hg BK239.out); have n9_ := Aside0.mk (ner_ hg BK239.out); clear BK238 BK239 HB; have BK238 := n0_; have BK239 := n1_; have HB := n2_; have BK240 := n3_; have GW240 := n4_; have GE240 := n5_; have NB238_240 := n6_; have NB240_238 := n7_; have NB239_240 := n8_; have NB240_239 := n9_; clear n0_ n1_ n2_ n3_ n4_ n5_ n6_ n7_ n8_ n9_ hb hbox hg) | ((with_reducible refine gate_dst (N := 6) rfl ?_); refine box_event ?hg (N := 6) ?hd (cs := #[.int .i64 0, .int .i64 0]) (t := 27) ?hr ?_; (case hd => rfl); (case hg => rfl); (case hr => first | (go_simp; done) | (go_simp; rfl)); intro gb241 hg w48 hbox hb; have n0_ := Aside0.mk (blk_below (bk_ BK238.out) hb); have n1_ := Aside0.mk (blk_below (bk_ BK239.out) hb); have n2_ := Aside0.mk (blk_below (bk_ BK240.out) hb); have n3_ := Aside0.mk (below_step (bl_ HB.out) hb); have n4_ := Aside0.mk (hbox); have n5_ := Aside0.mk (szl_ hg HB.out); have n6_ := Aside0.mk (szl_ hg HB.out); have n7_ := Aside0.mk (nel_ hg BK238.out); have n8_ := Aside0.mk (ner_ hg BK238.out); have n9_ := Aside0.mk (nel_ hg BK239.out); have n10_ := Aside0.mk (ner_ hg BK239.out); have n11_ := Aside0.mk (nel_ hg BK240.out); have n12_ := Aside0.mk (ner_ hg BK240.out); clear BK238 BK239 BK240 HB; have BK238 := n0_; have BK239 := n1_; have BK240 := n2_; have HB := n3_; have BK241 := n4_; have GW241 := n5_; have GE241 := n6_; have NB238_241 := n7_; have NB241_238 := n8_; have NB239_241 := n9_; have NB241_239 := n10_; have NB240_241 := n11_; have NB241_240 := n12_; clear n0_ n1_ n2_ n3_ n4_ n5_ n6_ n7_ n8_ n9_ n10_ n11_ n12_ hb hbox hg; have hnb49 := NB238_239.out; have hnc49 := NB239_238.out; have hnb50 := NB238_240.out; have hnc50 := NB240_238.out; have hnb51 := NB238_241.out; have hnc51 := NB241_238.out; have hcz52_0 : w48.cell? ⟨gb238, 0, none⟩ = some (.slice A0_0 l0_0.length c0_0) := (blk_cell BK238.out 0).trans rfl; have hcz52_1 : w48.cell? ⟨gb238, 1, none⟩ = some (.slice A0_1 l0_1.length c0_1) := (blk_cell BK238.out 1).trans rfl; have hcz52_2 : w48.cell? ⟨gb238, 2, none⟩ = some (.slice A0_2 l0_2.length c0_2) := (blk_cell BK238.out 2).trans rfl; have hfz52_0 := blk_frozen BK238.out 0; have hfz52_1 := blk_frozen BK238.out 1; have hfz52_2 := blk_frozen BK238.out 2; have hnb53 := NB239_240.out; have hnc53 := NB240_239.out; have hnb54 := NB239_241.out; have hnc54 := NB241_239.out; have hcz55_0 : w48.cell? ⟨gb239, 0, none⟩ = some (.int .i64 a1_0) := (blk_cell BK239.out 0).trans rfl; have hcz55_1 : w48.cell? ⟨gb239, 1, none⟩ = some (.int .i64 a1_1) := (blk_cell BK239.out 1).trans rfl; have hfz55_0 := blk_frozen BK239.out 0; have hfz55_1 := blk_frozen BK239.out 1; have hnb56 := NB240_241.out; have hnc56 := NB241_240.out; have hcz57_0 : w48.cell? ⟨gb240, 0, none⟩ = some (.int .i64 a2_0) := (blk_cell BK240.out 0).trans rfl; have hcz57_1 : w48.cell? ⟨gb240, 1, none⟩ = some (.int .i64 a2_1) := (blk_cell BK240.out 1).trans rfl; have hfz57_0 := blk_frozen BK240.out 0; have hfz57_1 := blk_frozen BK240.out 1) | ((with_reducible refine gate_callee (f := 88) rfl ?_); refine goesL_ (some 14) rfl rfl Try.func88 (by kernel_rfl) rfl #[.agg #[.slice A0_0 l0_0.length c0_0, .slice A0_1 l0_1.length c0_1, .slice A0_2 l0_2.length c0_2], .agg #[.int .i64 a1_0, .int .i64 a1_1], .agg #[.int .i64 a2_0, .int .i64 a2_1]] rfl (by (try simp only [List.map_toArray, List.map_cons, List.map_nil]); first | done | rfl | (simp only [List.length_drop, List.length_take]; rfl)) ?_; (with_reducible refine (spans_checkPoints.calls _ _ l0_0 _ _ l0_1 _ _ l0_2 a1_0 a1_1 a2_0 a2_1 t242 _ ?side1 ?side2 ?side3 ?side4 ?side5 ?side6 A4.out).mono ?_); (case side1 => exact cr_ (Kd.C_below HR0_0.out HB.out)); (case side2 => exact HC0_0.out); (case side3 => exact cr_ (Kd.C_below HR0_1.out HB.out)); (case side4 => exact HC0_1.out); (case side5 => exact cr_ (Kd.C_below HR0_2.out HB.out)); (case side6 => exact HC0_2.out); rintro e w58 ⟨rfl, hb⟩; refine ⟨_, rfl, ?_⟩; have n0_ := Aside0.mk (blk_below (bk_ BK238.out) hb); have n1_ := Aside0.mk (blk_below (bk_ BK239.out) hb); have n2_ := Aside0.mk (blk_below (bk_ BK240.out) hb); have n3_ := Aside0.mk (blk_below (bk_ BK241.out) hb); have n4_ := Aside0.mk (below_step (bl_ HB.out) hb); clear BK238 BK239 BK240 BK241 HB; have BK238 := n0_; have BK239 := n1_; have BK240 := n2_; have BK241 := n3_; have HB := n4_; clear n0_ n1_ n2_ n3_ n4_; (try clear hb); (try clear hb2); (try clear hk); (try clear hi); have hcz59_0 : w58.cell? ⟨gb241, 0, none⟩ = some (.int .i64 0) := (blk_cell BK241.out 0).trans rfl; have hcz59_1 : w58.cell? ⟨gb241, 1, none⟩ = some (.int .i64 0) := (blk_cell BK241.out 1).trans rfl; have hfz59_0 := blk_frozen BK241.out 0; have hfz59_1 := blk_frozen BK241.out 1))
  refine bodyPost_ret (results_ct rfl _ _ gb241 27 #[.int .i64 0, .int .i64 0] (0, 0) _ rfl (by (with_reducible repeat (first | refine blk_drewN ?_ _ | refine blk_drew ?_ | refine blk_alloc ?_ _)); refine blk_put (cs := #[.int .i64 0, .int .i64 0]) ?_ 1 _ rfl; (with_reducible repeat (first | refine blk_drewN ?_ _ | refine blk_drew ?_ | refine blk_alloc ?_ _)); refine blk_put (cs := #[.int .i64 0, .int .i64 0]) ?_ 0 _ rfl; (with_reducible repeat (first | refine blk_drewN ?_ _ | refine blk_drew ?_ | refine blk_alloc ?_ _)); exact BK241.out) Try.underlying27 rfl (by kernel_rfl)) rfl ?_
  exact ⟨by first | rfl | (simp [errW_none, errW_some] <;> rfl) | (simp [*, errW_none, errW_some] <;> rfl), bl_ HB.out⟩
end Go.Proofs.Yteodlmgmmpkpoaa.PS
end
section
namespace Go.Proofs.Yteodlmgmmpkpoaa.PS
open Go.RowKit Go.Proofs.YteodlmgmmpkpoaaW.PrintWords Go.Proofs.YteodlmgmmpkpoaaW.PrintLast Go.Proofs.YteodlmgmmpkpoaaW.PrintMore
attribute [local go_sem] max2_int min2_int max_two min_two max_three min_three max_four min_four   -- for this text's walks alone
set_option linter.unusedVariables false
set_option linter.unusedSimpArgs false
def spans_Greatest.l0 : Nat → Int → Int → Int → List Int → List Int → List (List Int) → Int → Int → Option (Int × Int)
 | 0, _, _, _, _, _, _, _, _ => none
 | k + 1, x2, x9, x12, x222000, x222001, x222002, x223000, x223001 => if x12 ≥ x9 then ((spans_extremes.f x222000 x222001 x222002 x12 x12 x223000 x223001).bind fun bt227 => ((spans_value_up.f bt227.2.2.2.2.2.2.1 bt227.2.2.2.2.2.2.2).bind fun t237 => (if t237 ≤ x2 then (some (x12, 0)) else (spans_Greatest.l0 k x2 x9 (wrap64 (x12 - 1)) x222000 x222001 x222002 x223000 x223001)))) else (some (0, 3))
def spans_Greatest.f (k : Nat) (l0_0 : List Int) (l0_1 : List Int) (l0_2 : List (List Int)) (a1_0 : Int) (a1_1 : Int) (a2 : Int) : Option (Int × Int) := (spans_CheckTable.f l0_0 l0_1 l0_2).bind fun t223 => (if t223 = 0 then (if 0 < (l0_0.length : Int) then (if 0 ≤ (wrap64 ((l0_0.length : Int) - 1)) then (if (wrap64 ((l0_0.length : Int) - 1)) < (l0_0.length : Int) then ((spans_checkPoints.f l0_0 l0_1 l0_2 (rd l0_0 0) (rd l0_0 0) a1_0 a1_1).bind fun t226 => (if t226 = 0 then (spans_Greatest.l0 k a2 (rd l0_0 0) (rd l0_0 (wrap64 ((l0_0.length : Int) - 1))) l0_0 l0_1 l0_2 a1_0 a1_1) else (some (0, t226)))) else (none)) else (none)) else (none)) else (some (0, t223)))
theorem spans_Greatest.mono_l : ∀ k, (∀ y0 y1 y2 y3 y4 y5 y6 y7, LeO (spans_Greatest.l0 k y0 y1 y2 y3 y4 y5 y6 y7) (spans_Greatest.l0 (k + 1) y0 y1 y2 y3 y4 y5 y6 y7))
 | 0 => fun _ _ _ _ _ _ _ _ r h => by simp [spans_Greatest.l0] at h
 | k + 1 => by
  have ih0 := spans_Greatest.mono_l k
  ·
   intro y0 y1 y2 y3 y4 y5 y6 y7
   unfold spans_Greatest.l0
   repeat' first
   | (with_reducible exact ih0 _ _ _ _ _ _ _ _)
   | (with_reducible exact LeO.refl _)
   | (with_reducible exact LeO.none _)
   | (with_reducible refine LeO.ite ?_ ?_)
   | (with_reducible refine LeO.bind ?_ (fun _ => ?_))
   | exact ih0 _ _ _ _ _ _ _ _
   | exact LeO.none _
   | refine LeO.ite ?_ ?_
   | refine LeO.bind ?_ (fun _ => ?_)
theorem spans_Greatest.mono : ∀ a0 a1 a2 a3 a4 a5 k, LeO (spans_Greatest.f k a0 a1 a2 a3 a4 a5) (spans_Greatest.f (k + 1) a0 a1 a2 a3 a4 a5) := by
 intro a0 a1 a2 a3 a4 a5 k
 have ih0 := spans_Greatest.mono_l k
 unfold spans_Greatest.f
 repeat' first
   | (with_reducible exact ih0 _ _ _ _ _ _ _ _)
   | (with_reducible exact LeO.refl _)
   | (with_reducible exact LeO.none _)
   | (with_reducible refine LeO.ite ?_ ?_)
   | (with_reducible refine LeO.bind ?_ (fun _ => ?_))
   | exact ih0 _ _ _ _ _ _ _ _
   | exact LeO.none _
   | refine LeO.ite ?_ ?_
   | refine LeO.bind ?_ (fun _ => ?_)
set_option maxHeartbeats 8000000 in
set_option maxRecDepth 100000 in
theorem spans_Greatest.calls (k : Nat) (A0_0 : Option Addr) (c0_0 : Nat) (l0_0 : List Int) (A0_1 : Option Addr) (c0_1 : Nat) (l0_1 : List Int) (A0_2 : Option Addr) (c0_2 : Nat) (l0_2 : List (List Int)) (a1_0 : Int) (a1_1 : Int) (a2 : Int) (r1 : Int) (r2 : Int) (w : World) (hr0_0 : Kd.C (Kd.int .i64) w A0_0 l0_0.length l0_0) (hc0_0 : l0_0.length ≤ c0_0) (hr0_1 : Kd.C (Kd.int .i64) w A0_1 l0_1.length l0_1) (hc0_1 : l0_1.length ≤ c0_1) (hr0_2 : Kd.C (Kd.slice 3 (Kd.int .i64)) w A0_2 l0_2.length l0_2) (hc0_2 : l0_2.length ≤ c0_2) (h : spans_Greatest.f k l0_0 l0_1 l0_2 a1_0 a1_1 a2 = some (r1, r2)) :
  Calls Try.prog 23 #[.agg #[.slice A0_0 l0_0.length c0_0, .slice A0_1 l0_1.length c0_1, .slice A0_2 l0_2.length c0_2], .agg #[.int .i64 a1_0, .int .i64 a1_1], .int .i64 a2] w fun e w' => e = .returned (.tuple #[.int .i64 r1, .int .i64 r2]) ∧ Below w.heap.size w w' := by
 have hu25 := Try.underlying25
 have hu27 := Try.underlying27
 have hu133 := Try.underlying133
 have hu131 := Try.underlying131
 have HR0_0 := Aside0.mk hr0_0
 have HC0_0 := Aside0.mk hc0_0
 clear hr0_0 hc0_0
 have HR0_1 := Aside0.mk hr0_1
 have HC0_1 := Aside0.mk hc0_1
 clear hr0_1 hc0_1
 have HR0_2 := Aside0.mk hr0_2
 have HC0_2 := Aside0.mk hc0_2
 clear hr0_2 hc0_2
 have HB := Aside0.mk (Below.refl w.heap.size w)
 have H : ((spans_CheckTable.f l0_0 l0_1 l0_2).bind fun t223 => (if t223 = 0 then (if 0 < (l0_0.length : Int) then (if 0 ≤ (wrap64 ((l0_0.length : Int) - 1)) then (if (wrap64 ((l0_0.length : Int) - 1)) < (l0_0.length : Int) then ((spans_checkPoints.f l0_0 l0_1 l0_2 (rd l0_0 0) (rd l0_0 0) a1_0 a1_1).bind fun t226 => (if t226 = 0 then (spans_Greatest.l0 k a2 (rd l0_0 0) (rd l0_0 (wrap64 ((l0_0.length : Int) - 1))) l0_0 l0_1 l0_2 a1_0 a1_1) else (some (0, t226)))) else (none)) else (none)) else (none)) else (some (0, t223)))) = some (r1, r2) := h
 clear h
 replace H := Option.bind_eq_some_iff.mp H
 obtain ⟨t223, A40, H⟩ := H
 replace H : (if t223 = 0 then (if 0 < (l0_0.length : Int) then (if 0 ≤ (wrap64 ((l0_0.length : Int) - 1)) then (if (wrap64 ((l0_0.length : Int) - 1)) < (l0_0.length : Int) then ((spans_checkPoints.f l0_0 l0_1 l0_2 (rd l0_0 0) (rd l0_0 0) a1_0 a1_1).bind fun t226 => (if t226 = 0 then (spans_Greatest.l0 k a2 (rd l0_0 0) (rd l0_0 (wrap64 ((l0_0.length : Int) - 1))) l0_0 l0_1 l0_2 a1_0 a1_1) else (some (0, t226)))) else (none)) else (none)) else (none)) else (some (0, t223))) = some (r1, r2) := H
 have A4 := Aside0.mk A40
 clear A40
 by_cases c5 : t223 = 0
 ·
  rw [if_pos c5] at H
  have c5b0 : (t223 == 0) = true := beq_iff_eq.mpr c5
  have c5b1 : (t223 != 0) = false := bne_eq_false_iff_eq.mpr c5
  clear c5
  by_cases c6 : 0 < (l0_0.length : Int)
  ·
   rw [if_pos c6] at H
   have c6b0 : decide (0 < (l0_0.length : Int)) = true := decide_eq_true c6
   have c6b1 : decide (0 < l0_0.length) = true := decide_eq_true (by omega)
   clear c6
   obtain ⟨ji7, hji7⟩ : ∃ j_ : Int, (wrap64 ((l0_0.length : Int) - 1)) = j_ := ⟨_, rfl⟩
   replace H : (if 0 ≤ (ji7) then (if (ji7) < (l0_0.length : Int) then ((spans_checkPoints.f l0_0 l0_1 l0_2 (rd l0_0 0) (rd l0_0 0) a1_0 a1_1).bind fun t226 => (if t226 = 0 then (spans_Greatest.l0 k a2 (rd l0_0 0) (rd l0_0 (ji7)) l0_0 l0_1 l0_2 a1_0 a1_1) else (some (0, t226)))) else (none)) else (none)) = some (r1, r2) := by first | (rw [hji7] at H; exact H) | (simp only [hji7] at H ⊢; exact H)
   (try rw [hji7] at A4)
   have hji7w : (IntKind.i64.wrap ((l0_0.length : Int) - 1)) = ji7 := (i64_w _).trans hji7
   by_cases c8 : 0 ≤ (ji7)
   ·
    rw [if_pos c8] at H
    have c8b0 : decide (0 ≤ (ji7)) = true := decide_eq_true c8
    clear c8
    by_cases c9 : (ji7) < (l0_0.length : Int)
    ·
     rw [if_pos c9] at H
     have c9b0 : decide ((ji7) < (l0_0.length : Int)) = true := decide_eq_true c9
     clear c9
     replace H := Option.bind_eq_some_iff.mp H
     obtain ⟨t226, A100, H⟩ := H
     replace H : (if t226 = 0 then (spans_Greatest.l0 k a2 (rd l0_0 0) (rd l0_0 (ji7)) l0_0 l0_1 l0_2 a1_0 a1_1) else (some (0, t226))) = some (r1, r2) := H
     have A10 := Aside0.mk A100
     clear A100
     by_cases c11 : t226 = 0
     ·
      rw [if_pos c11] at H
      have c11b0 : (t226 == 0) = true := beq_iff_eq.mpr c11
      have c11b1 : (t226 != 0) = false := bne_eq_false_iff_eq.mpr c11
      clear c11
      have H' := Aside0.mk H
      clear H
      go_enter Try.func23, Try.ntmps23
      go_wp2_with (first | ((with_reducible refine gate_dst (N := 3) rfl ?_); refine box_event ?hg (N := 3) ?hd (cs := #[.slice A0_0 l0_0.length c0_0, .slice A0_1 l0_1.length c0_1, .slice A0_2 l0_2.length c0_2]) (t := 25) ?hr ?_; (case hd => rfl); (case hg => rfl); (case hr => first | (go_simp; done) | (go_simp; rfl)); intro gb221 hg w12 hbox hb; have n0_ := Aside0.mk (below_step (bl_ HB.out) hb); have n1_ := Aside0.mk (hbox); have n2_ := Aside0.mk (szl_ hg HB.out); have n3_ := Aside0.mk (szl_ hg HB.out); clear HB; have HB := n0_; have BK221 := n1_; have GW221 := n2_; have GE221 := n3_; clear n0_ n1_ n2_ n3_ hb hbox hg) | ((with_reducible refine gate_dst (N := 4) rfl ?_); refine box_event ?hg (N := 4) ?hd (cs := #[.int .i64 a1_0, .int .i64 a1_1]) (t := 27) ?hr ?_; (case hd => rfl); (case hg => rfl); (case hr => first | (go_simp; done) | (go_simp; rfl)); intro gb222 hg w13 hbox hb; have n0_ := Aside0.mk (blk_below (bk_ BK221.out) hb); have n1_ := Aside0.mk (below_step (bl_ HB.out) hb); have n2_ := Aside0.mk (hbox); have n3_ := Aside0.mk (szl_ hg HB.out); have n4_ := Aside0.mk (szl_ hg HB.out); have n5_ := Aside0.mk (nel_ hg BK221.out); have n6_ := Aside0.mk (ner_ hg BK221.out); clear BK221 HB; have BK221 := n0_; have HB := n1_; have BK222 := n2_; have GW222 := n3_; have GE222 := n4_; have NB221_222 := n5_; have NB222_221 := n6_; clear n0_ n1_ n2_ n3_ n4_ n5_ n6_ hb hbox hg; have hnb14 := NB221_222.out; have hnc14 := NB222_221.out; have hcz15_0 : w13.cell? ⟨gb221, 0, none⟩ = some (.slice A0_0 l0_0.length c0_0) := (blk_cell BK221.out 0).trans rfl; have hcz15_1 : w13.cell? ⟨gb221, 1, none⟩ = some (.slice A0_1 l0_1.length c0_1) := (blk_cell BK221.out 1).trans rfl; have hcz15_2 : w13.cell? ⟨gb221, 2, none⟩ = some (.slice A0_2 l0_2.length c0_2) := (blk_cell BK221.out 2).trans rfl; have hfz15_0 := blk_frozen BK221.out 0; have hfz15_1 := blk_frozen BK221.out 1; have hfz15_2 := blk_frozen BK221.out 2) | (go_at_call 29; (with_reducible refine (spans_CheckTable.calls _ _ l0_0 _ _ l0_1 _ _ l0_2 t223 _ ?side1 ?side2 ?side3 ?side4 ?side5 ?side6 A4.out).mono ?_); (case side1 => exact cr_ (Kd.C_below HR0_0.out HB.out)); (case side2 => exact HC0_0.out); (case side3 => exact cr_ (Kd.C_below HR0_1.out HB.out)); (case side4 => exact HC0_1.out); (case side5 => exact cr_ (Kd.C_below HR0_2.out HB.out)); (case side6 => exact HC0_2.out); rintro e w16 ⟨rfl, hb⟩; have n0_ := Aside0.mk (blk_below (bk_ BK221.out) hb); have n1_ := Aside0.mk (blk_below (bk_ BK222.out) hb); have n2_ := Aside0.mk (below_step (bl_ HB.out) hb); clear BK221 BK222 HB; have BK221 := n0_; have BK222 := n1_; have HB := n2_; clear n0_ n1_ n2_; (try clear hb); (try clear hb2); (try clear hk); (try clear hi); have hcz17_0 : w16.cell? ⟨gb221, 0, none⟩ = some (.slice A0_0 l0_0.length c0_0) := (blk_cell BK221.out 0).trans rfl; have hcz17_1 : w16.cell? ⟨gb221, 1, none⟩ = some (.slice A0_1 l0_1.length c0_1) := (blk_cell BK221.out 1).trans rfl; have hcz17_2 : w16.cell? ⟨gb221, 2, none⟩ = some (.slice A0_2 l0_2.length c0_2) := (blk_cell BK221.out 2).trans rfl; have hfz17_0 := blk_frozen BK221.out 0; have hfz17_1 := blk_frozen BK221.out 1; have hfz17_2 := blk_frozen BK221.out 2; have p224 : 0 ≤ (0 : Int) := (by omega); have q224 : 0 < (l0_0.length : Int) := of_decide_eq_true (by first | (with_reducible assumption) | assumption); obtain ⟨ad224, e224, hx224_0⟩ := Kd.at_int HR0_0.out 0 p224 q224; cases e224; have qi224 : (0 < l0_0.length) = True := eq_true (by omega); (try rw [show ((0 : Int)).toNat = 0 from rfl] at hx224_0); (try rw [Addr.add_zero'] at hx224_0); replace hx224_0 := (HB.out.cell (World.block_lt_of_cell? w _ hx224_0)).trans hx224_0; replace p224 := eq_true p224; replace q224 := eq_true q224; have p225 : 0 ≤ ((ji7) : Int) := of_decide_eq_true (by first | (with_reducible assumption) | assumption); have q225 : (ji7) < (l0_0.length : Int) := of_decide_eq_true (by first | (with_reducible assumption) | assumption); obtain ⟨ad225, e225, hx225_0⟩ := Kd.at_int HR0_0.out (ji7) p225 q225; obtain rfl : ad224 = ad225 := (by injection e225); replace hx225_0 := (HB.out.cell (World.block_lt_of_cell? w _ hx225_0)).trans hx225_0; replace p225 := eq_true p225; replace q225 := eq_true q225; have hcz18_0 : w16.cell? ⟨gb222, 0, none⟩ = some (.int .i64 a1_0) := (blk_cell BK222.out 0).trans rfl; have hcz18_1 : w16.cell? ⟨gb222, 1, none⟩ = some (.int .i64 a1_1) := (blk_cell BK222.out 1).trans rfl; have hfz18_0 := blk_frozen BK222.out 0; have hfz18_1 := blk_frozen BK222.out 1) | (go_at_call 88; (with_reducible refine (spans_checkPoints.calls _ _ l0_0 _ _ l0_1 _ _ l0_2 (rd l0_0 0) (rd l0_0 0) a1_0 a1_1 t226 _ ?side1 ?side2 ?side3 ?side4 ?side5 ?side6 A10.out).mono ?_); (case side1 => exact cr_ (Kd.C_below HR0_0.out HB.out)); (case side2 => exact HC0_0.out); (case side3 => exact cr_ (Kd.C_below HR0_1.out HB.out)); (case side4 => exact HC0_1.out); (case side5 => exact cr_ (Kd.C_below HR0_2.out HB.out)); (case side6 => exact HC0_2.out); rintro e w19 ⟨rfl, hb⟩; have n0_ := Aside0.mk (blk_below (bk_ BK221.out) hb); have n1_ := Aside0.mk (blk_below (bk_ BK222.out) hb); have n2_ := Aside0.mk (below_step (bl_ HB.out) hb); clear BK221 BK222 HB; have BK221 := n0_; have BK222 := n1_; have HB := n2_; clear n0_ n1_ n2_; (try clear hb); (try clear hb2); (try clear hk); (try clear hi)))
      repeat (go_quiet (first | ((with_reducible refine gate_dst (N := 3) rfl ?_); refine box_event ?hg (N := 3) ?hd (cs := #[.slice A0_0 l0_0.length c0_0, .slice A0_1 l0_1.length c0_1, .slice A0_2 l0_2.length c0_2]) (t := 25) ?hr ?_; (case hd => rfl); (case hg => rfl); (case hr => first | (go_simp; done) | (go_simp; rfl)); intro gb221 hg w12 hbox hb; have n0_ := Aside0.mk (below_step (bl_ HB.out) hb); have n1_ := Aside0.mk (hbox); have n2_ := Aside0.mk (szl_ hg HB.out); have n3_ := Aside0.mk (szl_ hg HB.out); clear HB; have HB := n0_; have BK221 := n1_; have GW221 := n2_; have GE221 := n3_; clear n0_ n1_ n2_ n3_ hb hbox hg) | ((with_reducible refine gate_dst (N := 4) rfl ?_); refine box_event ?hg (N := 4) ?hd (cs := #[.int .i64 a1_0, .int .i64 a1_1]) (t := 27) ?hr ?_; (case hd => rfl); (case hg => rfl); (case hr => first | (go_simp; done) | (go_simp; rfl)); intro gb222 hg w13 hbox hb; have n0_ := Aside0.mk (blk_below (bk_ BK221.out) hb); have n1_ := Aside0.mk (below_step (bl_ HB.out) hb); have n2_ := Aside0.mk (hbox); have n3_ := Aside0.mk (szl_ hg HB.out); have n4_ := Aside0.mk (szl_ hg HB.out); have n5_ := Aside0.mk (nel_ hg BK221.out); have n6_ := Aside0.mk (ner_ hg BK221.out); clear BK221 HB; have BK221 := n0_; have HB := n1_; have BK222 := n2_; have GW222 := n3_; have GE222 := n4_; have NB221_222 := n5_; have NB222_221 := n6_; clear n0_ n1_ n2_ n3_ n4_ n5_ n6_ hb hbox hg; have hnb14 := NB221_222.out; have hnc14 := NB222_221.out; have hcz15_0 : w13.cell? ⟨gb221, 0, none⟩ = some (.slice A0_0 l0_0.length c0_0) := (blk_cell BK221.out 0).trans rfl; have hcz15_1 : w13.cell? ⟨gb221, 1, none⟩ = some (.slice A0_1 l0_1.length c0_1) := (blk_cell BK221.out 1).trans rfl; have hcz15_2 : w13.cell? ⟨gb221, 2, none⟩ = some (.slice A0_2 l0_2.length c0_2) := (blk_cell BK221.out 2).trans rfl; have hfz15_0 := blk_frozen BK221.out 0; have hfz15_1 := blk_frozen BK221.out 1; have hfz15_2 := blk_frozen BK221.out 2) | (go_at_call 29; (with_reducible refine (spans_CheckTable.calls _ _ l0_0 _ _ l0_1 _ _ l0_2 t223 _ ?side1 ?side2 ?side3 ?side4 ?side5 ?side6 A4.out).mono ?_); (case side1 => exact cr_ (Kd.C_below HR0_0.out HB.out)); (case side2 => exact HC0_0.out); (case side3 => exact cr_ (Kd.C_below HR0_1.out HB.out)); (case side4 => exact HC0_1.out); (case side5 => exact cr_ (Kd.C_below HR0_2.out HB.out)); (case side6 => exact HC0_2.out); rintro e w16 ⟨rfl, hb⟩; have n0_ := Aside0.mk (blk_below (bk_ BK221.out) hb); have n1_ := Aside0.mk (blk_below (bk_ BK222.out) hb); have n2_ := Aside0.mk (below_step (bl_ HB.out) hb); clear BK221 BK222 HB; have BK221 := n0_; have BK222 := n1_; have HB := n2_; clear n0_ n1_ n2_; (try clear hb); (try clear hb2); (try clear hk); (try clear hi); have hcz17_0 : w16.cell? ⟨gb221, 0, none⟩ = some (.slice A0_0 l0_0.length c0_0) := (blk_cell BK221.out 0).trans rfl; have hcz17_1 : w16.cell? ⟨gb221, 1, none⟩ = some (.slice A0_1 l0_1.length c0_1) := (blk_cell BK221.out 1).trans rfl; have hcz17_2 : w16.cell? ⟨gb221, 2, none⟩ = some (.slice A0_2 l0_2.length c0_2) := (blk_cell BK221.out 2).trans rfl; have hfz17_0 := blk_frozen BK221.out 0; have hfz17_1 := blk_frozen BK221.out 1; have hfz17_2 := blk_frozen BK221.out 2; have p224 : 0 ≤ (0 : Int) := (by omega); have q224 : 0 < (l0_0.length : Int) := of_decide_eq_true (by first | (with_reducible assumption) | assumption); obtain ⟨ad224, e224, hx224_0⟩ := Kd.at_int HR0_0.out 0 p224 q224; cases e224; have qi224 : (0 < l0_0.length) = True := eq_true (by omega); (try rw [show ((0 : Int)).toNat = 0 from rfl] at hx224_0); (try rw [Addr.add_zero'] at hx224_0); replace hx224_0 := (HB.out.cell (World.block_lt_of_cell? w _ hx224_0)).trans hx224_0; replace p224 := eq_true p224; replace q224 := eq_true q224; have p225 : 0 ≤ ((ji7) : Int) := of_decide_eq_true (by first | (with_reducible assumption) | assumption); have q225 : (ji7) < (l0_0.length : Int) := of_decide_eq_true (by first | (with_reducible assumption) | assumption); obtain ⟨ad225, e225, hx225_0⟩ := Kd.at_int HR0_0.out (ji7) p225 q225; obtain rfl : ad224 = ad225 := (by injection e225); replace hx225_0 := (HB.out.cell (World.block_lt_of_cell? w _ hx225_0)).trans hx225_0; replace p225 := eq_true p225; replace q225 := eq_true q225; have hcz18_0 : w16.cell? ⟨gb222, 0, none⟩ = some (.int .i64 a1_0) := (blk_cell BK222.out 0).trans rfl; have hcz18_1 : w16.cell? ⟨gb222, 1, none⟩ = some (.int .i64 a1_1) := (blk_cell BK222.out 1).trans rfl; have hfz18_0 := blk_frozen BK222.out 0; have hfz18_1 := blk_frozen BK222.out 1) | (go_at_call 88; (with_reducible refine (spans_checkPoints.calls _ _ l0_0 _ _ l0_1 _ _ l0_2 (rd l0_0 0) (rd l0_0 0) a1_0 a1_1 t226 _ ?side1 ?side2 ?side3 ?side4 ?side5 ?side6 A10.out).mono ?_); (case side1 => exact cr_ (Kd.C_below HR0_0.out HB.out)); (case side2 => exact HC0_0.out); (case side3 => exact cr_ (Kd.C_below HR0_1.out HB.out)); (case side4 => exact HC0_1.out); (case side5 => exact cr_ (Kd.C_below HR0_2.out HB.out)); (case side6 => exact HC0_2.out); rintro e w19 ⟨rfl, hb⟩; have n0_ := Aside0.mk (blk_below (bk_ BK221.out) hb); have n1_ := Aside0.mk (blk_below (bk_ BK222.out) hb); have n2_ := Aside0.mk (below_step (bl_ HB.out) hb); clear BK221 BK222 HB; have BK221 := n0_; have BK222 := n1_; have HB := n2_; clear n0_ n1_ n2_; (try clear hb); (try clear hb2); (try clear hk); (try clear hi))); try go_wp2_with (first | ((with_reducible refine gate_dst (N := 3) rfl ?_); refine box_event ?hg (N := 3) ?hd (cs := #[.slice A0_0 l0_0.length c0_0, .slice A0_1 l0_1.length c0_1, .slice A0_2 l0_2.length c0_2]) (t := 25) ?hr ?_; (case hd => rfl); (case hg => rfl); (case hr => first | (go_simp; done) | (go_simp; rfl)); intro gb221 hg w12 hbox hb; have n0_ := Aside0.mk (below_step (bl_ HB.out) hb); have n1_ := Aside0.mk (hbox); have n2_ := Aside0.mk (szl_ hg HB.out); have n3_ := Aside0.mk (szl_ hg HB.out); clear HB; have HB := n0_; have BK221 := n1_; have GW221 := n2_; have GE221 := n3_; clear n0_ n1_ n2_ n3_ hb hbox hg) | ((with_reducible refine gate_dst (N := 4) rfl ?_); refine box_event ?hg (N := 4) ?hd (cs := #[.int .i64 a1_0, .int .i64 a1_1]) (t := 27) ?hr ?_; (case hd => rfl); (case hg => rfl); (case hr => first | (go_simp; done) | (go_simp; rfl)); intro gb222 hg w13 hbox hb; have n0_ := Aside0.mk (blk_below (bk_ BK221.out) hb); have n1_ := Aside0.mk (below_step (bl_ HB.out) hb); have n2_ := Aside0.mk (hbox); have n3_ := Aside0.mk (szl_ hg HB.out); have n4_ := Aside0.mk (szl_ hg HB.out); have n5_ := Aside0.mk (nel_ hg BK221.out); have n6_ := Aside0.mk (ner_ hg BK221.out); clear BK221 HB; have BK221 := n0_; have HB := n1_; have BK222 := n2_; have GW222 := n3_; have GE222 := n4_; have NB221_222 := n5_; have NB222_221 := n6_; clear n0_ n1_ n2_ n3_ n4_ n5_ n6_ hb hbox hg; have hnb14 := NB221_222.out; have hnc14 := NB222_221.out; have hcz15_0 : w13.cell? ⟨gb221, 0, none⟩ = some (.slice A0_0 l0_0.length c0_0) := (blk_cell BK221.out 0).trans rfl; have hcz15_1 : w13.cell? ⟨gb221, 1, none⟩ = some (.slice A0_1 l0_1.length c0_1) := (blk_cell BK221.out 1).trans rfl; have hcz15_2 : w13.cell? ⟨gb221, 2, none⟩ = some (.slice A0_2 l0_2.length c0_2) := (blk_cell BK221.out 2).trans rfl; have hfz15_0 := blk_frozen BK221.out 0; have hfz15_1 := blk_frozen BK221.out 1; have hfz15_2 := blk_frozen BK221.out 2) | (go_at_call 29; (with_reducible refine (spans_CheckTable.calls _ _ l0_0 _ _ l0_1 _ _ l0_2 t223 _ ?side1 ?side2 ?side3 ?side4 ?side5 ?side6 A4.out).mono ?_); (case side1 => exact cr_ (Kd.C_below HR0_0.out HB.out)); (case side2 => exact HC0_0.out); (case side3 => exact cr_ (Kd.C_below HR0_1.out HB.out)); (case side4 => exact HC0_1.out); (case side5 => exact cr_ (Kd.C_below HR0_2.out HB.out)); (case side6 => exact HC0_2.out); rintro e w16 ⟨rfl, hb⟩; have n0_ := Aside0.mk (blk_below (bk_ BK221.out) hb); have n1_ := Aside0.mk (blk_below (bk_ BK222.out) hb); have n2_ := Aside0.mk (below_step (bl_ HB.out) hb); clear BK221 BK222 HB; have BK221 := n0_; have BK222 := n1_; have HB := n2_; clear n0_ n1_ n2_; (try clear hb); (try clear hb2); (try clear hk); (try clear hi); have hcz17_0 : w16.cell? ⟨gb221, 0, none⟩ = some (.slice A0_0 l0_0.length c0_0) := (blk_cell BK221.out 0).trans rfl; have hcz17_1 : w16.cell? ⟨gb221, 1, none⟩ = some (.slice A0_1 l0_1.length c0_1) := (blk_cell BK221.out 1).trans rfl; have hcz17_2 : w16.cell? ⟨gb221, 2, none⟩ = some (.slice A0_2 l0_2.length c0_2) := (blk_cell BK221.out 2).trans rfl; have hfz17_0 := blk_frozen BK221.out 0; have hfz17_1 := blk_frozen BK221.out 1; have hfz17_2 := blk_frozen BK221.out 2; have p224 : 0 ≤ (0 : Int) := (by omega); have q224 : 0 < (l0_0.length : Int) := of_decide_eq_true (by first | (with_reducible assumption) | assumption); obtain ⟨ad224, e224, hx224_0⟩ := Kd.at_int HR0_0.out 0 p224 q224; cases e224; have qi224 : (0 < l0_0.length) = True := eq_true (by omega); (try rw [show ((0 : Int)).toNat = 0 from rfl] at hx224_0); (try rw [Addr.add_zero'] at hx224_0); replace hx224_0 := (HB.out.cell (World.block_lt_of_cell? w _ hx224_0)).trans hx224_0; replace p224 := eq_true p224; replace q224 := eq_true q224; have p225 : 0 ≤ ((ji7) : Int) := of_decide_eq_true (by first | (with_reducible assumption) | assumption); have q225 : (ji7) < (l0_0.length : Int) := of_decide_eq_true (by first | (with_reducible assumption) | assumption); obtain ⟨ad225, e225, hx225_0⟩ := Kd.at_int HR0_0.out (ji7) p225 q225; obtain rfl : ad224 = ad225 := (by injection e225); replace hx225_0 := (HB.out.cell (World.block_lt_of_cell? w _ hx225_0)).trans hx225_0; replace p225 := eq_true p225; replace q225 := eq_true q225; have hcz18_0 : w16.cell? ⟨gb222, 0, none⟩ = some (.int .i64 a1_0) := (blk_cell BK222.out 0).trans rfl; have hcz18_1 : w16.cell? ⟨gb222, 1, none⟩ = some (.int .i64 a1_1) := (blk_cell BK222.out 1).trans rfl; have hfz18_0 := blk_frozen BK222.out 0; have hfz18_1 := blk_frozen BK222.out 1) | (go_at_call 88; (with_reducible refine (spans_checkPoints.calls _ _ l0_0 _ _ l0_1 _ _ l0_2 (rd l0_0 0) (rd l0_0 0) a1_0 a1_1 t226 _ ?side1 ?side2 ?side3 ?side4 ?side5 ?side6 A10.out).mono ?_); (case side1 => exact cr_ (Kd.C_below HR0_0.out HB.out)); (case side2 => exact HC0_0.out); (case side3 => exact cr_ (Kd.C_below HR0_1.out HB.out)); (case side4 => exact HC0_1.out); (case side5 => exact cr_ (Kd.C_below HR0_2.out HB.out)); (case side6 => exact HC0_2.out); rintro e w19 ⟨rfl, hb⟩; have n0_ := Aside0.mk (blk_below (bk_ BK221.out) hb); have n1_ := Aside0.mk (blk_below (bk_ BK222.out) hb); have n2_ := Aside0.mk (below_step (bl_ HB.out) hb); clear BK221 BK222 HB; have BK221 := n0_; have BK222 := n1_; have HB := n2_; clear n0_ n1_ n2_; (try clear hb); (try clear hb2); (try clear hk); (try clear hi))))
      go_loopg [12] k (fun kq v12 w' => ∃ (x12_1 : Int), v12 = .int .i64 x12_1 ∧ Aside0 (spans_Greatest.l0 kq a2 (rd l0_0 0) x12_1 l0_0 l0_1 l0_2 a1_0 a1_1 = some (r1, r2)) ∧ Aside0 (kq ≤ k) ∧ Aside0 (w'.heap[gb221]? = some (.cells #[(.slice (some ad224) l0_0.length c0_0), (.slice A0_1 l0_1.length c0_1), (.slice A0_2 l0_2.length c0_2)] 25 (0, 0))) ∧ Aside0 (w'.heap[gb222]? = some (.cells #[.int .i64 a1_0, .int .i64 a1_1] 27 (0, 0))) ∧ Aside0 (Below w.heap.size w w'))
      case atStart => exact ⟨(rd l0_0 (ji7)), (by first | rfl | (simp; done) | (simp only [← hji7] <;> (first | rfl | simp)) | (simp [*]; done)), H', ⟨Nat.le_refl _⟩, ⟨bk_ BK221.out⟩, ⟨bk_ BK222.out⟩, ⟨bl_ HB.out⟩⟩
      case round =>
       clear H'
       try clear c1
       try clear c2
       try clear p2
       try clear q2
       try clear hx2
       try clear qi2
       try clear c5
       try clear c5b0
       try clear c5b1
       try clear c6
       try clear c6b0
       try clear c6b1
       try clear p6
       try clear c8
       try clear c8b0
       try clear c9
       try clear c9b0
       try clear c11
       try clear c11b0
       try clear c11b1
       try clear c14
       try clear hcz15_0
       try clear hcz15_1
       try clear hcz15_2
       try clear hcz17_0
       try clear hcz17_1
       try clear hcz17_2
       try clear hcz18_0
       try clear hcz18_1
       try clear hfz15_0
       try clear hfz15_1
       try clear hfz15_2
       try clear hfz17_0
       try clear hfz17_1
       try clear hfz17_2
       try clear hfz18_0
       try clear hfz18_1
       try clear hx224_0
       try clear hx225_0
       try clear p224
       try clear p225
       try clear q224
       try clear q225
       obtain ⟨x12_1, rfl, HA, HK1, BK221, BK222, HB⟩ := hrel
       cases gk with
       | zero => exact absurd HA.out (by simp [spans_Greatest.l0])
       | succ k1 =>
        have H := HA.out
        clear HA
        simp only [spans_Greatest.l0] at H
        by_cases c20 : x12_1 ≥ (rd l0_0 0)
        ·
         rw [if_pos c20] at H
         have c20b0 : decide ((rd l0_0 0) ≤ x12_1) = true := decide_eq_true c20
         clear c20
         replace H := Option.bind_eq_some_iff.mp H
         obtain ⟨⟨t227, t228, t229, t230, t231, t232, t233, t234⟩, A210, H⟩ := H
         replace H : ((spans_value_up.f t233 t234).bind fun t237 => (if t237 ≤ a2 then (some (x12_1, 0)) else (spans_Greatest.l0 k1 a2 (rd l0_0 0) (wrap64 (x12_1 - 1)) l0_0 l0_1 l0_2 a1_0 a1_1))) = some (r1, r2) := H
         have A21 := Aside0.mk A210
         clear A210
         replace H := Option.bind_eq_some_iff.mp H
         obtain ⟨t237, A220, H⟩ := H
         replace H : (if t237 ≤ a2 then (some (x12_1, 0)) else (spans_Greatest.l0 k1 a2 (rd l0_0 0) (wrap64 (x12_1 - 1)) l0_0 l0_1 l0_2 a1_0 a1_1)) = some (r1, r2) := H
         have A22 := Aside0.mk A220
         clear A220
         by_cases c23 : t237 ≤ a2
         ·
          rw [if_pos c23] at H
          have c23b0 : decide (t237 ≤ a2) = true := decide_eq_true c23
          clear c23
          simp only [Option.some.injEq, Prod.mk.injEq] at H
          obtain ⟨rfl, rfl⟩ := H
          have hnb24 := NB221_222.out
          have hnc24 := NB222_221.out
          have hcz25_0 : wr.cell? ⟨gb221, 0, none⟩ = some (.slice (some ad224) l0_0.length c0_0) := (blk_cell BK221.out 0).trans rfl
          have hcz25_1 : wr.cell? ⟨gb221, 1, none⟩ = some (.slice A0_1 l0_1.length c0_1) := (blk_cell BK221.out 1).trans rfl
          have hcz25_2 : wr.cell? ⟨gb221, 2, none⟩ = some (.slice A0_2 l0_2.length c0_2) := (blk_cell BK221.out 2).trans rfl
          have hfz25_0 := blk_frozen BK221.out 0
          have hfz25_1 := blk_frozen BK221.out 1
          have hfz25_2 := blk_frozen BK221.out 2
          have hcz26_0 : wr.cell? ⟨gb222, 0, none⟩ = some (.int .i64 a1_0) := (blk_cell BK222.out 0).trans rfl
          have hcz26_1 : wr.cell? ⟨gb222, 1, none⟩ = some (.int .i64 a1_1) := (blk_cell BK222.out 1).trans rfl
          have hfz26_0 := blk_frozen BK222.out 0
          have hfz26_1 := blk_frozen BK222.out 1
          go_wp2_with (first | (go_at_call 89; (with_reducible refine (spans_extremes.calls _ _ l0_0 _ _ l0_1 _ _ l0_2 x12_1 x12_1 a1_0 a1_1 t227 t228 t229 t230 t231 t232 t233 t234 _ ?side1 ?side2 ?side3 ?side4 ?side5 ?side6 A21.out).mono ?_); (case side1 => exact cr_ (Kd.C_below HR0_0.out HB.out)); (case side2 => exact HC0_0.out); (case side3 => exact cr_ (Kd.C_below HR0_1.out HB.out)); (case side4 => exact HC0_1.out); (case side5 => exact cr_ (Kd.C_below HR0_2.out HB.out)); (case side6 => exact HC0_2.out); rintro e w27 ⟨rfl, hb⟩; have n0_ := Aside0.mk (blk_below (bk_ BK221.out) hb); have n1_ := Aside0.mk (blk_below (bk_ BK222.out) hb); have n2_ := Aside0.mk (below_step (bl_ HB.out) hb); clear BK221 BK222 HB; have BK221 := n0_; have BK222 := n1_; have HB := n2_; clear n0_ n1_ n2_; (try clear hb); (try clear hb2); (try clear hk); (try clear hi)) | ((with_reducible refine gate_dst (N := 13) rfl ?_); refine box_event ?hg (N := 13) ?hd (cs := #[.int .i64 0, .int .i64 0, .int .i64 0, .int .i64 0]) (t := 133) ?hr ?_; (case hd => rfl); (case hg => rfl); (case hr => first | (go_simp; done) | (go_simp; rfl)); intro gb235 hg w28 hbox hb; have n0_ := Aside0.mk (blk_below (bk_ BK221.out) hb); have n1_ := Aside0.mk (blk_below (bk_ BK222.out) hb); have n2_ := Aside0.mk (below_step (bl_ HB.out) hb); have n3_ := Aside0.mk (hbox); have n4_ := Aside0.mk (szl_ hg HB.out); have n5_ := Aside0.mk (szl_ hg HB.out); have n6_ := Aside0.mk (nel_ hg BK221.out); have n7_ := Aside0.mk (ner_ hg BK221.out); have n8_ := Aside0.mk (nel_ hg BK222.out); have n9_ := Aside0.mk (ner_ hg BK222.out); clear BK221 BK222 HB; have BK221 := n0_; have BK222 := n1_; have HB := n2_; have BK235 := n3_; have GW235 := n4_; have GE235 := n5_; have NB221_235 := n6_; have NB235_221 := n7_; have NB222_235 := n8_; have NB235_222 := n9_; clear n0_ n1_ n2_ n3_ n4_ n5_ n6_ n7_ n8_ n9_ hb hbox hg) | ((with_reducible refine gate_dst (N := 14) rfl ?_); refine box_event ?hg (N := 14) ?hd (cs := #[.int .i64 0, .int .i64 0, .int .i64 0, .int .i64 0]) (t := 133) ?hr ?_; (case hd => rfl); (case hg => rfl); (case hr => first | (go_simp; done) | (go_simp; rfl)); intro gb236 hg w29 hbox hb; have n0_ := Aside0.mk (blk_below (bk_ BK221.out) hb); have n1_ := Aside0.mk (blk_below (bk_ BK222.out) hb); have n2_ := Aside0.mk (blk_below (bk_ BK235.out) hb); have n3_ := Aside0.mk (below_step (bl_ HB.out) hb); have n4_ := Aside0.mk (hbox); have n5_ := Aside0.mk (szl_ hg HB.out); have n6_ := Aside0.mk (szl_ hg HB.out); have n7_ := Aside0.mk (nel_ hg BK221.out); have n8_ := Aside0.mk (ner_ hg BK221.out); have n9_ := Aside0.mk (nel_ hg BK222.out); have n10_ := Aside0.mk (ner_ hg BK222.out); have n11_ := Aside0.mk (nel_ hg BK235.out); have n12_ := Aside0.mk (ner_ hg BK235.out); clear BK221 BK222 BK235 HB; have BK221 := n0_; have BK222 := n1_; have BK235 := n2_; have HB := n3_; have BK236 := n4_; have GW236 := n5_; have GE236 := n6_; have NB221_236 := n7_; have NB236_221 := n8_; have NB222_236 := n9_; have NB236_222 := n10_; have NB235_236 := n11_; have NB236_235 := n12_; clear n0_ n1_ n2_ n3_ n4_ n5_ n6_ n7_ n8_ n9_ n10_ n11_ n12_ hb hbox hg; have hnb30 := NB235_221.out; have hnc30 := NB221_235.out; have hnb31 := NB235_222.out; have hnc31 := NB222_235.out; have hnb32 := NB235_236.out; have hnc32 := NB236_235.out; have hcz33_0 : w29.cell? ⟨gb235, 0, none⟩ = some (.int .i64 0) := (blk_cell BK235.out 0).trans rfl; have hcz33_1 : w29.cell? ⟨gb235, 1, none⟩ = some (.int .i64 0) := (blk_cell BK235.out 1).trans rfl; have hcz33_2 : w29.cell? ⟨gb235, 2, none⟩ = some (.int .i64 0) := (blk_cell BK235.out 2).trans rfl; have hcz33_3 : w29.cell? ⟨gb235, 3, none⟩ = some (.int .i64 0) := (blk_cell BK235.out 3).trans rfl; have hfz33_0 := blk_frozen BK235.out 0; have hfz33_1 := blk_frozen BK235.out 1; have hfz33_2 := blk_frozen BK235.out 2; have hfz33_3 := blk_frozen BK235.out 3; have hnb34 := NB236_221.out; have hnc34 := NB221_236.out; have hnb35 := NB236_222.out; have hnc35 := NB222_236.out; have hcz36_0 : w29.cell? ⟨gb236, 0, none⟩ = some (.int .i64 0) := (blk_cell BK236.out 0).trans rfl; have hcz36_1 : w29.cell? ⟨gb236, 1, none⟩ = some (.int .i64 0) := (blk_cell BK236.out 1).trans rfl; have hcz36_2 : w29.cell? ⟨gb236, 2, none⟩ = some (.int .i64 0) := (blk_cell BK236.out 2).trans rfl; have hcz36_3 : w29.cell? ⟨gb236, 3, none⟩ = some (.int .i64 0) := (blk_cell BK236.out 3).trans rfl; have hfz36_0 := blk_frozen BK236.out 0; have hfz36_1 := blk_frozen BK236.out 1; have hfz36_2 := blk_frozen BK236.out 2; have hfz36_3 := blk_frozen BK236.out 3) | (go_at_call 90; (with_reducible refine (spans_value_up.calls t233 t234 t237 _ A22.out).mono ?_); rintro e w37 ⟨rfl, hb⟩; have n0_ := Aside0.mk (blk_below (g := gb221) (o := .cells #[.slice (some ad224) l0_0.length c0_0, .slice A0_1 l0_1.length c0_1, .slice A0_2 l0_2.length c0_2] 25 (0, 0)) (by (with_reducible repeat (first | refine blk_drewN ?_ _ | refine blk_drew ?_ | refine blk_alloc ?_ _)); refine blk_far ?_ NB221_236.out _; (with_reducible repeat (first | refine blk_drewN ?_ _ | refine blk_drew ?_ | refine blk_alloc ?_ _)); refine blk_far ?_ NB221_236.out _; (with_reducible repeat (first | refine blk_drewN ?_ _ | refine blk_drew ?_ | refine blk_alloc ?_ _)); refine blk_far ?_ NB221_236.out _; (with_reducible repeat (first | refine blk_drewN ?_ _ | refine blk_drew ?_ | refine blk_alloc ?_ _)); refine blk_far ?_ NB221_236.out _; (with_reducible repeat (first | refine blk_drewN ?_ _ | refine blk_drew ?_ | refine blk_alloc ?_ _)); refine blk_far ?_ NB221_235.out _; (with_reducible repeat (first | refine blk_drewN ?_ _ | refine blk_drew ?_ | refine blk_alloc ?_ _)); refine blk_far ?_ NB221_235.out _; (with_reducible repeat (first | refine blk_drewN ?_ _ | refine blk_drew ?_ | refine blk_alloc ?_ _)); refine blk_far ?_ NB221_235.out _; (with_reducible repeat (first | refine blk_drewN ?_ _ | refine blk_drew ?_ | refine blk_alloc ?_ _)); refine blk_far ?_ NB221_235.out _; (with_reducible repeat (first | refine blk_drewN ?_ _ | refine blk_drew ?_ | refine blk_alloc ?_ _)); exact BK221.out) hb); have n1_ := Aside0.mk (blk_below (g := gb222) (o := .cells #[.int .i64 a1_0, .int .i64 a1_1] 27 (0, 0)) (by (with_reducible repeat (first | refine blk_drewN ?_ _ | refine blk_drew ?_ | refine blk_alloc ?_ _)); refine blk_far ?_ NB222_236.out _; (with_reducible repeat (first | refine blk_drewN ?_ _ | refine blk_drew ?_ | refine blk_alloc ?_ _)); refine blk_far ?_ NB222_236.out _; (with_reducible repeat (first | refine blk_drewN ?_ _ | refine blk_drew ?_ | refine blk_alloc ?_ _)); refine blk_far ?_ NB222_236.out _; (with_reducible repeat (first | refine blk_drewN ?_ _ | refine blk_drew ?_ | refine blk_alloc ?_ _)); refine blk_far ?_ NB222_236.out _; (with_reducible repeat (first | refine blk_drewN ?_ _ | refine blk_drew ?_ | refine blk_alloc ?_ _)); refine blk_far ?_ NB222_235.out _; (with_reducible repeat (first | refine blk_drewN ?_ _ | refine blk_drew ?_ | refine blk_alloc ?_ _)); refine blk_far ?_ NB222_235.out _; (with_reducible repeat (first | refine blk_drewN ?_ _ | refine blk_drew ?_ | refine blk_alloc ?_ _)); refine blk_far ?_ NB222_235.out _; (with_reducible repeat (first | refine blk_drewN ?_ _ | refine blk_drew ?_ | refine blk_alloc ?_ _)); refine blk_far ?_ NB222_235.out _; (with_reducible repeat (first | refine blk_drewN ?_ _ | refine blk_drew ?_ | refine blk_alloc ?_ _)); exact BK222.out) hb); have n2_ := Aside0.mk (blk_below (g := gb235) (o := .cells #[.int .i64 t227, .int .i64 t228, .int .i64 t229, .int .i64 t230] 133 (0, 0)) (by (with_reducible repeat (first | refine blk_drewN ?_ _ | refine blk_drew ?_ | refine blk_alloc ?_ _)); refine blk_far ?_ NB235_236.out _; (with_reducible repeat (first | refine blk_drewN ?_ _ | refine blk_drew ?_ | refine blk_alloc ?_ _)); refine blk_far ?_ NB235_236.out _; (with_reducible repeat (first | refine blk_drewN ?_ _ | refine blk_drew ?_ | refine blk_alloc ?_ _)); refine blk_far ?_ NB235_236.out _; (with_reducible repeat (first | refine blk_drewN ?_ _ | refine blk_drew ?_ | refine blk_alloc ?_ _)); refine blk_far ?_ NB235_236.out _; (with_reducible repeat (first | refine blk_drewN ?_ _ | refine blk_drew ?_ | refine blk_alloc ?_ _)); refine blk_put (cs := #[.int .i64 t227, .int .i64 t228, .int .i64 t229, .int .i64 0]) ?_ 3 _ rfl; (with_reducible repeat (first | refine blk_drewN ?_ _ | refine blk_drew ?_ | refine blk_alloc ?_ _)); refine blk_put (cs := #[.int .i64 t227, .int .i64 t228, .int .i64 0, .int .i64 0]) ?_ 2 _ rfl; (with_reducible repeat (first | refine blk_drewN ?_ _ | refine blk_drew ?_ | refine blk_alloc ?_ _)); refine blk_put (cs := #[.int .i64 t227, .int .i64 0, .int .i64 0, .int .i64 0]) ?_ 1 _ rfl; (with_reducible repeat (first | refine blk_drewN ?_ _ | refine blk_drew ?_ | refine blk_alloc ?_ _)); refine blk_put (cs := #[.int .i64 0, .int .i64 0, .int .i64 0, .int .i64 0]) ?_ 0 _ rfl; (with_reducible repeat (first | refine blk_drewN ?_ _ | refine blk_drew ?_ | refine blk_alloc ?_ _)); exact BK235.out) hb); have n3_ := Aside0.mk (blk_below (g := gb236) (o := .cells #[.int .i64 t231, .int .i64 t232, .int .i64 t233, .int .i64 t234] 133 (0, 0)) (by (with_reducible repeat (first | refine blk_drewN ?_ _ | refine blk_drew ?_ | refine blk_alloc ?_ _)); refine blk_put (cs := #[.int .i64 t231, .int .i64 t232, .int .i64 t233, .int .i64 0]) ?_ 3 _ rfl; (with_reducible repeat (first | refine blk_drewN ?_ _ | refine blk_drew ?_ | refine blk_alloc ?_ _)); refine blk_put (cs := #[.int .i64 t231, .int .i64 t232, .int .i64 0, .int .i64 0]) ?_ 2 _ rfl; (with_reducible repeat (first | refine blk_drewN ?_ _ | refine blk_drew ?_ | refine blk_alloc ?_ _)); refine blk_put (cs := #[.int .i64 t231, .int .i64 0, .int .i64 0, .int .i64 0]) ?_ 1 _ rfl; (with_reducible repeat (first | refine blk_drewN ?_ _ | refine blk_drew ?_ | refine blk_alloc ?_ _)); refine blk_put (cs := #[.int .i64 0, .int .i64 0, .int .i64 0, .int .i64 0]) ?_ 0 _ rfl; (with_reducible repeat (first | refine blk_drewN ?_ _ | refine blk_drew ?_ | refine blk_alloc ?_ _)); refine blk_far ?_ NB236_235.out _; (with_reducible repeat (first | refine blk_drewN ?_ _ | refine blk_drew ?_ | refine blk_alloc ?_ _)); refine blk_far ?_ NB236_235.out _; (with_reducible repeat (first | refine blk_drewN ?_ _ | refine blk_drew ?_ | refine blk_alloc ?_ _)); refine blk_far ?_ NB236_235.out _; (with_reducible repeat (first | refine blk_drewN ?_ _ | refine blk_drew ?_ | refine blk_alloc ?_ _)); refine blk_far ?_ NB236_235.out _; (with_reducible repeat (first | refine blk_drewN ?_ _ | refine blk_drew ?_ | refine blk_alloc ?_ _)); exact BK236.out) hb); have n4_ := Aside0.mk (below_step (bl_ HB.out) hb); clear BK221 BK222 BK235 BK236 HB; have BK221 := n0_; have BK222 := n1_; have BK235 := n2_; have BK236 := n3_; have HB := n4_; clear n0_ n1_ n2_ n3_ n4_; (try clear hb); (try clear hb2); (try clear hk); (try clear hi)))
          go_ret2
          exact ⟨by first | rfl | (simp [errW_none, errW_some] <;> rfl) | (simp only [← hji7]; first | rfl | (simp [errW_none, errW_some] <;> rfl)) | (simp [*, errW_none, errW_some] <;> rfl), bl_ HB.out⟩
         ·
          rw [if_neg c23] at H
          have c23b0 : decide (t237 ≤ a2) = false := decide_eq_false c23
          clear c23
          have H' := Aside0.mk H
          clear H
          have hnb38 := NB221_222.out
          have hnc38 := NB222_221.out
          have hcz39_0 : wr.cell? ⟨gb221, 0, none⟩ = some (.slice (some ad224) l0_0.length c0_0) := (blk_cell BK221.out 0).trans rfl
          have hcz39_1 : wr.cell? ⟨gb221, 1, none⟩ = some (.slice A0_1 l0_1.length c0_1) := (blk_cell BK221.out 1).trans rfl
          have hcz39_2 : wr.cell? ⟨gb221, 2, none⟩ = some (.slice A0_2 l0_2.length c0_2) := (blk_cell BK221.out 2).trans rfl
          have hfz39_0 := blk_frozen BK221.out 0
          have hfz39_1 := blk_frozen BK221.out 1
          have hfz39_2 := blk_frozen BK221.out 2
          have hcz40_0 : wr.cell? ⟨gb222, 0, none⟩ = some (.int .i64 a1_0) := (blk_cell BK222.out 0).trans rfl
          have hcz40_1 : wr.cell? ⟨gb222, 1, none⟩ = some (.int .i64 a1_1) := (blk_cell BK222.out 1).trans rfl
          have hfz40_0 := blk_frozen BK222.out 0
          have hfz40_1 := blk_frozen BK222.out 1
          go_wp2_with (first | (go_at_call 89; (with_reducible refine (spans_extremes.calls _ _ l0_0 _ _ l0_1 _ _ l0_2 x12_1 x12_1 a1_0 a1_1 t227 t228 t229 t230 t231 t232 t233 t234 _ ?side1 ?side2 ?side3 ?side4 ?side5 ?side6 A21.out).mono ?_); (case side1 => exact cr_ (Kd.C_below HR0_0.out HB.out)); (case side2 => exact HC0_0.out); (case side3 => exact cr_ (Kd.C_below HR0_1.out HB.out)); (case side4 => exact HC0_1.out); (case side5 => exact cr_ (Kd.C_below HR0_2.out HB.out)); (case side6 => exact HC0_2.out); rintro e w41 ⟨rfl, hb⟩; have n0_ := Aside0.mk (blk_below (bk_ BK221.out) hb); have n1_ := Aside0.mk (blk_below (bk_ BK222.out) hb); have n2_ := Aside0.mk (below_step (bl_ HB.out) hb); clear BK221 BK222 HB; have BK221 := n0_; have BK222 := n1_; have HB := n2_; clear n0_ n1_ n2_; (try clear hb); (try clear hb2); (try clear hk); (try clear hi)) | ((with_reducible refine gate_dst (N := 13) rfl ?_); refine box_event ?hg (N := 13) ?hd (cs := #[.int .i64 0, .int .i64 0, .int .i64 0, .int .i64 0]) (t := 133) ?hr ?_; (case hd => rfl); (case hg => rfl); (case hr => first | (go_simp; done) | (go_simp; rfl)); intro gb235 hg w42 hbox hb; have n0_ := Aside0.mk (blk_below (bk_ BK221.out) hb); have n1_ := Aside0.mk (blk_below (bk_ BK222.out) hb); have n2_ := Aside0.mk (below_step (bl_ HB.out) hb); have n3_ := Aside0.mk (hbox); have n4_ := Aside0.mk (szl_ hg HB.out); have n5_ := Aside0.mk (szl_ hg HB.out); have n6_ := Aside0.mk (nel_ hg BK221.out); have n7_ := Aside0.mk (ner_ hg BK221.out); have n8_ := Aside0.mk (nel_ hg BK222.out); have n9_ := Aside0.mk (ner_ hg BK222.out); clear BK221 BK222 HB; have BK221 := n0_; have BK222 := n1_; have HB := n2_; have BK235 := n3_; have GW235 := n4_; have GE235 := n5_; have NB221_235 := n6_; have NB235_221 := n7_; have NB222_235 := n8_; have NB235_222 := n9_; clear n0_ n1_ n2_ n3_ n4_ n5_ n6_ n7_ n8_ n9_ hb hbox hg) | ((with_reducible refine gate_dst (N := 14) rfl ?_); refine box_event ?hg (N := 14) ?hd (cs := #[.int .i64 0, .int .i64 0, .int .i64 0, .int .i64 0]) (t := 133) ?hr ?_; (case hd => rfl); (case hg => rfl); (case hr => first | (go_simp; done) | (go_simp; rfl)); intro gb236 hg w43 hbox hb; have n0_ := Aside0.mk (blk_below (bk_ BK221.out) hb); have n1_ := Aside0.mk (blk_below (bk_ BK222.out) hb); have n2_ := Aside0.mk (blk_below (bk_ BK235.out) hb); have n3_ := Aside0.mk (below_step (bl_ HB.out) hb); have n4_ := Aside0.mk (hbox); have n5_ := Aside0.mk (szl_ hg HB.out); have n6_ := Aside0.mk (szl_ hg HB.out); have n7_ := Aside0.mk (nel_ hg BK221.out); have n8_ := Aside0.mk (ner_ hg BK221.out); have n9_ := Aside0.mk (nel_ hg BK222.out); have n10_ := Aside0.mk (ner_ hg BK222.out); have n11_ := Aside0.mk (nel_ hg BK235.out); have n12_ := Aside0.mk (ner_ hg BK235.out); clear BK221 BK222 BK235 HB; have BK221 := n0_; have BK222 := n1_; have BK235 := n2_; have HB := n3_; have BK236 := n4_; have GW236 := n5_; have GE236 := n6_; have NB221_236 := n7_; have NB236_221 := n8_; have NB222_236 := n9_; have NB236_222 := n10_; have NB235_236 := n11_; have NB236_235 := n12_; clear n0_ n1_ n2_ n3_ n4_ n5_ n6_ n7_ n8_ n9_ n10_ n11_ n12_ hb hbox hg; have hnb44 := NB235_221.out; have hnc44 := NB221_235.out; have hnb45 := NB235_222.out; have hnc45 := NB222_235.out; have hnb46 := NB235_236.out; have hnc46 := NB236_235.out; have hcz47_0 : w43.cell? ⟨gb235, 0, none⟩ = some (.int .i64 0) := (blk_cell BK235.out 0).trans rfl; have hcz47_1 : w43.cell? ⟨gb235, 1, none⟩ = some (.int .i64 0) := (blk_cell BK235.out 1).trans rfl; have hcz47_2 : w43.cell? ⟨gb235, 2, none⟩ = some (.int .i64 0) := (blk_cell BK235.out 2).trans rfl; have hcz47_3 : w43.cell? ⟨gb235, 3, none⟩ = some (.int .i64 0) := (blk_cell BK235.out 3).trans rfl; have hfz47_0 := blk_frozen BK235.out 0; have hfz47_1 := blk_frozen BK235.out 1; have hfz47_2 := blk_frozen BK235.out 2; have hfz47_3 := blk_frozen BK235.out 3; have hnb48 := NB236_221.out; have hnc48 := NB221_236.out; have hnb49 := NB236_222.out; have hnc49 := NB222_236.out; have hcz50_0 : w43.cell? ⟨gb236, 0, none⟩ = some (.int .i64 0) := (blk_cell BK236.out 0).trans rfl; have hcz50_1 : w43.cell? ⟨gb236, 1, none⟩ = some (.int .i64 0) := (blk_cell BK236.out 1).trans rfl; have hcz50_2 : w43.cell? ⟨gb236, 2, none⟩ = some (.int .i64 0) := (blk_cell BK236.out 2).trans rfl; have hcz50_3 : w43.cell? ⟨gb236, 3, none⟩ = some (.int .i64 0) := (blk_cell BK236.out 3).trans rfl; have hfz50_0 := blk_frozen BK236.out 0; have hfz50_1 := blk_frozen BK236.out 1; have hfz50_2 := blk_frozen BK236.out 2; have hfz50_3 := blk_frozen BK236.out 3) | (go_at_call 90; (with_reducible refine (spans_value_up.calls t233 t234 t237 _ A22.out).mono ?_); rintro e w51 ⟨rfl, hb⟩; have n0_ := Aside0.mk (blk_below (g := gb221) (o := .cells #[.slice (some ad224) l0_0.length c0_0, .slice A0_1 l0_1.length c0_1, .slice A0_2 l0_2.length c0_2] 25 (0, 0)) (by (with_reducible repeat (first | refine blk_drewN ?_ _ | refine blk_drew ?_ | refine blk_alloc ?_ _)); refine blk_far ?_ NB221_236.out _; (with_reducible repeat (first | refine blk_drewN ?_ _ | refine blk_drew ?_ | refine blk_alloc ?_ _)); refine blk_far ?_ NB221_236.out _; (with_reducible repeat (first | refine blk_drewN ?_ _ | refine blk_drew ?_ | refine blk_alloc ?_ _)); refine blk_far ?_ NB221_236.out _; (with_reducible repeat (first | refine blk_drewN ?_ _ | refine blk_drew ?_ | refine blk_alloc ?_ _)); refine blk_far ?_ NB221_236.out _; (with_reducible repeat (first | refine blk_drewN ?_ _ | refine blk_drew ?_ | refine blk_alloc ?_ _)); refine blk_far ?_ NB221_235.out _; (with_reducible repeat (first | refine blk_drewN ?_ _ | refine blk_drew ?_ | refine blk_alloc ?_ _)); refine blk_far ?_ NB221_235.out _; (with_reducible repeat (first | refine blk_drewN ?_ _ | refine blk_drew ?_ | refine blk_alloc ?_ _)); refine blk_far ?_ NB221_235.out _; (with_reducible repeat (first | refine blk_drewN ?_ _ | refine blk_drew ?_ | refine blk_alloc ?_ _)); refine blk_far ?_ NB221_235.out _; (with_reducible repeat (first | refine blk_drewN ?_ _ | refine blk_drew ?_ | refine blk_alloc ?_ _)); exact BK221.out) hb); have n1_ := Aside0.mk (blk_below (g := gb222) (o := .cells #[.int .i64 a1_0, .int .i64 a1_1] 27 (0, 0)) (by (with_reducible repeat (first | refine blk_drewN ?_ _ | refine blk_drew ?_ | refine blk_alloc ?_ _)); refine blk_far ?_ NB222_236.out _; (with_reducible repeat (first | refine blk_drewN ?_ _ | refine blk_drew ?_ | refine blk_alloc ?_ _)); refine blk_far ?_ NB222_236.out _; (with_reducible repeat (first | refine blk_drewN ?_ _ | refine blk_drew ?_ | refine blk_alloc ?_ _)); refine blk_far ?_ NB222_236.out _; (with_reducible repeat (first | refine blk_drewN ?_ _ | refine blk_drew ?_ | refine blk_alloc ?_ _)); refine blk_far ?_ NB222_236.out _; (with_reducible repeat (first | refine blk_drewN ?_ _ | refine blk_drew ?_ | refine blk_alloc ?_ _)); refine blk_far ?_ NB222_235.out _; (with_reducible repeat (first | refine blk_drewN ?_ _ | refine blk_drew ?_ | refine blk_alloc ?_ _)); refine blk_far ?_ NB222_235.out _; (with_reducible repeat (first | refine blk_drewN ?_ _ | refine blk_drew ?_ | refine blk_alloc ?_ _)); refine blk_far ?_ NB222_235.out _; (with_reducible repeat (first | refine blk_drewN ?_ _ | refine blk_drew ?_ | refine blk_alloc ?_ _)); refine blk_far ?_ NB222_235.out _; (with_reducible repeat (first | refine blk_drewN ?_ _ | refine blk_drew ?_ | refine blk_alloc ?_ _)); exact BK222.out) hb); have n2_ := Aside0.mk (blk_below (g := gb235) (o := .cells #[.int .i64 t227, .int .i64 t228, .int .i64 t229, .int .i64 t230] 133 (0, 0)) (by (with_reducible repeat (first | refine blk_drewN ?_ _ | refine blk_drew ?_ | refine blk_alloc ?_ _)); refine blk_far ?_ NB235_236.out _; (with_reducible repeat (first | refine blk_drewN ?_ _ | refine blk_drew ?_ | refine blk_alloc ?_ _)); refine blk_far ?_ NB235_236.out _; (with_reducible repeat (first | refine blk_drewN ?_ _ | refine blk_drew ?_ | refine blk_alloc ?_ _)); refine blk_far ?_ NB235_236.out _; (with_reducible repeat (first | refine blk_drewN ?_ _ | refine blk_drew ?_ | refine blk_alloc ?_ _)); refine blk_far ?_ NB235_236.out _; (with_reducible repeat (first | refine blk_drewN ?_ _ | refine blk_drew ?_ | refine blk_alloc ?_ _)); refine blk_put (cs := #[.int .i64 t227, .int .i64 t228, .int .i64 t229, .int .i64 0]) ?_ 3 _ rfl; (with_reducible repeat (first | refine blk_drewN ?_ _ | refine blk_drew ?_ | refine blk_alloc ?_ _)); refine blk_put (cs := #[.int .i64 t227, .int .i64 t228, .int .i64 0, .int .i64 0]) ?_ 2 _ rfl; (with_reducible repeat (first | refine blk_drewN ?_ _ | refine blk_drew ?_ | refine blk_alloc ?_ _)); refine blk_put (cs := #[.int .i64 t227, .int .i64 0, .int .i64 0, .int .i64 0]) ?_ 1 _ rfl; (with_reducible repeat (first | refine blk_drewN ?_ _ | refine blk_drew ?_ | refine blk_alloc ?_ _)); refine blk_put (cs := #[.int .i64 0, .int .i64 0, .int .i64 0, .int .i64 0]) ?_ 0 _ rfl; (with_reducible repeat (first | refine blk_drewN ?_ _ | refine blk_drew ?_ | refine blk_alloc ?_ _)); exact BK235.out) hb); have n3_ := Aside0.mk (blk_below (g := gb236) (o := .cells #[.int .i64 t231, .int .i64 t232, .int .i64 t233, .int .i64 t234] 133 (0, 0)) (by (with_reducible repeat (first | refine blk_drewN ?_ _ | refine blk_drew ?_ | refine blk_alloc ?_ _)); refine blk_put (cs := #[.int .i64 t231, .int .i64 t232, .int .i64 t233, .int .i64 0]) ?_ 3 _ rfl; (with_reducible repeat (first | refine blk_drewN ?_ _ | refine blk_drew ?_ | refine blk_alloc ?_ _)); refine blk_put (cs := #[.int .i64 t231, .int .i64 t232, .int .i64 0, .int .i64 0]) ?_ 2 _ rfl; (with_reducible repeat (first | refine blk_drewN ?_ _ | refine blk_drew ?_ | refine blk_alloc ?_ _)); refine blk_put (cs := #[.int .i64 t231, .int .i64 0, .int .i64 0, .int .i64 0]) ?_ 1 _ rfl; (with_reducible repeat (first | refine blk_drewN ?_ _ | refine blk_drew ?_ | refine blk_alloc ?_ _)); refine blk_put (cs := #[.int .i64 0, .int .i64 0, .int .i64 0, .int .i64 0]) ?_ 0 _ rfl; (with_reducible repeat (first | refine blk_drewN ?_ _ | refine blk_drew ?_ | refine blk_alloc ?_ _)); refine blk_far ?_ NB236_235.out _; (with_reducible repeat (first | refine blk_drewN ?_ _ | refine blk_drew ?_ | refine blk_alloc ?_ _)); refine blk_far ?_ NB236_235.out _; (with_reducible repeat (first | refine blk_drewN ?_ _ | refine blk_drew ?_ | refine blk_alloc ?_ _)); refine blk_far ?_ NB236_235.out _; (with_reducible repeat (first | refine blk_drewN ?_ _ | refine blk_drew ?_ | refine blk_alloc ?_ _)); refine blk_far ?_ NB236_235.out _; (with_reducible repeat (first | refine blk_drewN ?_ _ | refine blk_drew ?_ | refine blk_alloc ?_ _)); exact BK236.out) hb); have n4_ := Aside0.mk (below_step (bl_ HB.out) hb); clear BK221 BK222 BK235 BK236 HB; have BK221 := n0_; have BK222 := n1_; have BK235 := n2_; have BK236 := n3_; have HB := n4_; clear n0_ n1_ n2_ n3_ n4_; (try clear hb); (try clear hb2); (try clear hk); (try clear hi)))
          go_roundg k1
          case measure => have := HK1.out; omega
          case rel => exact ⟨(wrap64 (x12_1 - 1)), (by first | rfl | (simp; done) | (simp [*]; done)), H', ⟨by have := HK1.out; omega⟩, ⟨bk_ BK221.out⟩, ⟨bk_ BK222.out⟩, ⟨bl_ HB.out⟩⟩
        ·
         rw [if_neg c20] at H
         have c20b0 : decide ((rd l0_0 0) ≤ x12_1) = false := decide_eq_false c20
         clear c20
         simp only [Option.some.injEq, Prod.mk.injEq] at H
         obtain ⟨rfl, rfl⟩ := H
         go_wp2
         go_ret2
         exact ⟨by first | rfl | (simp [errW_none, errW_some] <;> rfl) | (simp only [← hji7]; first | rfl | (simp [errW_none, errW_some] <;> rfl)) | (simp [*, errW_none, errW_some] <;> rfl), bl_ HB.out⟩
     ·
      rw [if_neg c11] at H
      have c11b0 : (t226 == 0) = false := beq_eq_false_iff_ne.mpr c11
      have c11b1 : (t226 != 0) = true := bne_iff_ne.mpr c11
      simp only [Option.some.injEq, Prod.mk.injEq] at H
      obtain ⟨rfl, rfl⟩ := H
      go_enter Try.func23, Try.ntmps23
      go_wp2_with (first | ((with_reducible refine gate_dst (N := 3) rfl ?_); refine box_event ?hg (N := 3) ?hd (cs := #[.slice A0_0 l0_0.length c0_0, .slice A0_1 l0_1.length c0_1, .slice A0_2 l0_2.length c0_2]) (t := 25) ?hr ?_; (case hd => rfl); (case hg => rfl); (case hr => first | (go_simp; done) | (go_simp; rfl)); intro gb221 hg w52 hbox hb; have n0_ := Aside0.mk (below_step (bl_ HB.out) hb); have n1_ := Aside0.mk (hbox); have n2_ := Aside0.mk (szl_ hg HB.out); have n3_ := Aside0.mk (szl_ hg HB.out); clear HB; have HB := n0_; have BK221 := n1_; have GW221 := n2_; have GE221 := n3_; clear n0_ n1_ n2_ n3_ hb hbox hg) | ((with_reducible refine gate_dst (N := 4) rfl ?_); refine box_event ?hg (N := 4) ?hd (cs := #[.int .i64 a1_0, .int .i64 a1_1]) (t := 27) ?hr ?_; (case hd => rfl); (case hg => rfl); (case hr => first | (go_simp; done) | (go_simp; rfl)); intro gb222 hg w53 hbox hb; have n0_ := Aside0.mk (blk_below (bk_ BK221.out) hb); have n1_ := Aside0.mk (below_step (bl_ HB.out) hb); have n2_ := Aside0.mk (hbox); have n3_ := Aside0.mk (szl_ hg HB.out); have n4_ := Aside0.mk (szl_ hg HB.out); have n5_ := Aside0.mk (nel_ hg BK221.out); have n6_ := Aside0.mk (ner_ hg BK221.out); clear BK221 HB; have BK221 := n0_; have HB := n1_; have BK222 := n2_; have GW222 := n3_; have GE222 := n4_; have NB221_222 := n5_; have NB222_221 := n6_; clear n0_ n1_ n2_ n3_ n4_ n5_ n6_ hb hbox hg; have hnb54 := NB221_222.out; have hnc54 := NB222_221.out; have hcz55_0 : w53.cell? ⟨gb221, 0, none⟩ = some (.slice A0_0 l0_0.length c0_0) := (blk_cell BK221.out 0).trans rfl; have hcz55_1 : w53.cell? ⟨gb221, 1, none⟩ = some (.slice A0_1 l0_1.length c0_1) := (blk_cell BK221.out 1).trans rfl; have hcz55_2 : w53.cell? ⟨gb221, 2, none⟩ = some (.slice A0_2 l0_2.length c0_2) := (blk_cell BK221.out 2).trans rfl; have hfz55_0 := blk_frozen BK221.out 0; have hfz55_1 := blk_frozen BK221.out 1; have hfz55_2 := blk_frozen BK221.out 2) | (go_at_call 29; (with_reducible refine (spans_CheckTable.calls _ _ l0_0 _ _ l0_1 _ _ l0_2 t223 _ ?side1 ?side2 ?side3 ?side4 ?side5 ?side6 A4.out).mono ?_); (case side1 => exact cr_ (Kd.C_below HR0_0.out HB.out)); (case side2 => exact HC0_0.out); (case side3 => exact cr_ (Kd.C_below HR0_1.out HB.out)); (case side4 => exact HC0_1.out); (case side5 => exact cr_ (Kd.C_below HR0_2.out HB.out)); (case side6 => exact HC0_2.out); rintro e w56 ⟨rfl, hb⟩; have n0_ := Aside0.mk (blk_below (bk_ BK221.out) hb); have n1_ := Aside0.mk (blk_below (bk_ BK222.out) hb); have n2_ := Aside0.mk (below_step (bl_ HB.out) hb); clear BK221 BK222 HB; have BK221 := n0_; have BK222 := n1_; have HB := n2_; clear n0_ n1_ n2_; (try clear hb); (try clear hb2); (try clear hk); (try clear hi); have hcz57_0 : w56.cell? ⟨gb221, 0, none⟩ = some (.slice A0_0 l0_0.length c0_0) := (blk_cell BK221.out 0).trans rfl; have hcz57_1 : w56.cell? ⟨gb221, 1, none⟩ = some (.slice A0_1 l0_1.length c0_1) := (blk_cell BK221.out 1).trans rfl; have hcz57_2 : w56.cell? ⟨gb221, 2, none⟩ = some (.slice A0_2 l0_2.length c0_2) := (blk_cell BK221.out 2).trans rfl; have hfz57_0 := blk_frozen BK221.out 0; have hfz57_1 := blk_frozen BK221.out 1; have hfz57_2 := blk_frozen BK221.out 2; have p224 : 0 ≤ (0 : Int) := (by omega); have q224 : 0 < (l0_0.length : Int) := of_decide_eq_true (by first | (with_reducible assumption) | assumption); obtain ⟨ad224, e224, hx224_0⟩ := Kd.at_int HR0_0.out 0 p224 q224; cases e224; have qi224 : (0 < l0_0.length) = True := eq_true (by omega); (try rw [show ((0 : Int)).toNat = 0 from rfl] at hx224_0); (try rw [Addr.add_zero'] at hx224_0); replace hx224_0 := (HB.out.cell (World.block_lt_of_cell? w _ hx224_0)).trans hx224_0; replace p224 := eq_true p224; replace q224 := eq_true q224; have p225 : 0 ≤ ((ji7) : Int) := of_decide_eq_true (by first | (with_reducible assumption) | assumption); have q225 : (ji7) < (l0_0.length : Int) := of_decide_eq_true (by first | (with_reducible assumption) | assumption); obtain ⟨ad225, e225, hx225_0⟩ := Kd.at_int HR0_0.out (ji7) p225 q225; obtain rfl : ad224 = ad225 := (by injection e225); replace hx225_0 := (HB.out.cell (World.block_lt_of_cell? w _ hx225_0)).trans hx225_0; replace p225 := eq_true p225; replace q225 := eq_true q225; have hcz58_0 : w56.cell? ⟨gb222, 0, none⟩ = some (.int .i64 a1_0) := (blk_cell BK222.out 0).trans rfl; have hcz58_1 : w56.cell? ⟨gb222, 1, none⟩ = some (.int .i64 a1_1) := (blk_cell BK222.out 1).trans rfl; have hfz58_0 := blk_frozen BK222.out 0; have hfz58_1 := blk_frozen BK222.out 1) | (go_at_call 88; (with_reducible refine (spans_checkPoints.calls _ _ l0_0 _ _ l0_1 _ _ l0_2 (rd l0_0 0) (rd l0_0 0) a1_0 a1_1 t226 _ ?side1 ?side2 ?side3 ?side4 ?side5 ?side6 A10.out).mono ?_); (case side1 => exact cr_ (Kd.C_below HR0_0.out HB.out)); (case side2 => exact HC0_0.out); (case side3 => exact cr_ (Kd.C_below HR0_1.out HB.out)); (case side4 => exact HC0_1.out); (case side5 => exact cr_ (Kd.C_below HR0_2.out HB.out)); (case side6 => exact HC0_2.out); rintro e w59 ⟨rfl, hb⟩; have n0_ := Aside0.mk (blk_below (bk_ BK221.out) hb); have n1_ := Aside0.mk (blk_below (bk_ BK222.out) hb); have n2_ := Aside0.mk (below_step (bl_ HB.out) hb); clear BK221 BK222 HB; have BK221 := n0_; have BK222 := n1_; have HB := n2_; clear n0_ n1_ n2_; (try clear hb); (try clear hb2); (try clear hk); (try clear hi)))
      repeat (go_quiet (first | ((with_reducible refine gate_dst (N := 3) rfl ?_); refine box_event ?hg (N := 3) ?hd (cs := #[.slice A0_0 l0_0.length c0_0, .slice A0_1 l0_1.length c0_1, .slice A0_2 l0_2.length c0_2]) (t := 25) ?hr ?_; (case hd => rfl); (case hg => rfl); (case hr => first | (go_simp; done) | (go_simp; rfl)); intro gb221 hg w52 hbox hb; have n0_ := Aside0.mk (below_step (bl_ HB.out) hb); have n1_ := Aside0.mk (hbox); have n2_ := Aside0.mk (szl_ hg HB.out); have n3_ := Aside0.mk (szl_ hg HB.out); clear HB; have HB := n0_; have BK221 := n1_; have GW221 := n2_; have GE221 := n3_; clear n0_ n1_ n2_ n3_ hb hbox hg) | ((with_reducible refine gate_dst (N := 4) rfl ?_); refine box_event ?hg (N := 4) ?hd (cs := #[.int .i64 a1_0, .int .i64 a1_1]) (t := 27) ?hr ?_; (case hd => rfl); (case hg => rfl); (case hr => first | (go_simp; done) | (go_simp; rfl)); intro gb222 hg w53 hbox hb; have n0_ := Aside0.mk (blk_below (bk_ BK221.out) hb); have n1_ := Aside0.mk (below_step (bl_ HB.out) hb); have n2_ := Aside0.mk (hbox); have n3_ := Aside0.mk (szl_ hg HB.out); have n4_ := Aside0.mk (szl_ hg HB.out); have n5_ := Aside0.mk (nel_ hg BK221.out); have n6_ := Aside0.mk (ner_ hg BK221.out); clear BK221 HB; have BK221 := n0_; have HB := n1_; have BK222 := n2_; have GW222 := n3_; have GE222 := n4_; have NB221_222 := n5_; have NB222_221 := n6_; clear n0_ n1_ n2_ n3_ n4_ n5_ n6_ hb hbox hg; have hnb54 := NB221_222.out; have hnc54 := NB222_221.out; have hcz55_0 : w53.cell? ⟨gb221, 0, none⟩ = some (.slice A0_0 l0_0.length c0_0) := (blk_cell BK221.out 0).trans rfl; have hcz55_1 : w53.cell? ⟨gb221, 1, none⟩ = some (.slice A0_1 l0_1.length c0_1) := (blk_cell BK221.out 1).trans rfl; have hcz55_2 : w53.cell? ⟨gb221, 2, none⟩ = some (.slice A0_2 l0_2.length c0_2) := (blk_cell BK221.out 2).trans rfl; have hfz55_0 := blk_frozen BK221.out 0; have hfz55_1 := blk_frozen BK221.out 1; have hfz55_2 := blk_frozen BK221.out 2) | (go_at_call 29; (with_reducible refine (spans_CheckTable.calls _ _ l0_0 _ _ l0_1 _ _ l0_2 t223 _ ?side1 ?side2 ?side3 ?side4 ?side5 ?side6 A4.out).mono ?_); (case side1 => exact cr_ (Kd.C_below HR0_0.out HB.out)); (case side2 => exact HC0_0.out); (case side3 => exact cr_ (Kd.C_below HR0_1.out HB.out)); (case side4 => exact HC0_1.out); (case side5 => exact cr_ (Kd.C_below HR0_2.out HB.out)); (case side6 => exact HC0_2.out); rintro e w56 ⟨rfl, hb⟩; have n0_ := Aside0.mk (blk_below (bk_ BK221.out) hb); have n1_ := Aside0.mk (blk_below (bk_ BK222.out) hb); have n2_ := Aside0.mk (below_step (bl_ HB.out) hb); clear BK221 BK222 HB; have BK221 := n0_; have BK222 := n1_; have HB := n2_; clear n0_ n1_ n2_; (try clear hb); (try clear hb2); (try clear hk); (try clear hi); have hcz57_0 : w56.cell? ⟨gb221, 0, none⟩ = some (.slice A0_0 l0_0.length c0_0) := (blk_cell BK221.out 0).trans rfl; have hcz57_1 : w56.cell? ⟨gb221, 1, none⟩ = some (.slice A0_1 l0_1.length c0_1) := (blk_cell BK221.out 1).trans rfl; have hcz57_2 : w56.cell? ⟨gb221, 2, none⟩ = some (.slice A0_2 l0_2.length c0_2) := (blk_cell BK221.out 2).trans rfl; have hfz57_0 := blk_frozen BK221.out 0; have hfz57_1 := blk_frozen BK221.out 1; have hfz57_2 := blk_frozen BK221.out 2; have p224 : 0 ≤ (0 : Int) := (by omega); have q224 : 0 < (l0_0.length : Int) := of_decide_eq_true (by first | (with_reducible assumption) | assumption); obtain ⟨ad224, e224, hx224_0⟩ := Kd.at_int HR0_0.out 0 p224 q224; cases e224; have qi224 : (0 < l0_0.length) = True := eq_true (by omega); (try rw [show ((0 : Int)).toNat = 0 from rfl] at hx224_0); (try rw [Addr.add_zero'] at hx224_0); replace hx224_0 := (HB.out.cell (World.block_lt_of_cell? w _ hx224_0)).trans hx224_0; replace p224 := eq_true p224; replace q224 := eq_true q224; have p225 : 0 ≤ ((ji7) : Int) := of_decide_eq_true (by first | (with_reducible assumption) | assumption); have q225 : (ji7) < (l0_0.length : Int) := of_decide_eq_true (by first | (with_reducible assumption) | assumption); obtain ⟨ad225, e225, hx225_0⟩ := Kd.at_int HR0_0.out (ji7) p225 q225; obtain rfl : ad224 = ad225 := (by injection e225); replace hx225_0 := (HB.out.cell (World.block_lt_of_cell? w _ hx225_0)).trans hx225_0; replace p225 := eq_true p225; replace q225 := eq_true q225; have hcz58_0 : w56.cell? ⟨gb222, 0, none⟩ = some (.int .i64 a1_0) := (blk_cell BK222.out 0).trans rfl; have hcz58_1 : w56.cell? ⟨gb222, 1, none⟩ = some (.int .i64 a1_1) := (blk_cell BK222.out 1).trans rfl; have hfz58_0 := blk_frozen BK222.out 0; have hfz58_1 := blk_frozen BK222.out 1) | (go_at_call 88; (with_reducible refine (spans_checkPoints.calls _ _ l0_0 _ _ l0_1 _ _ l0_2 (rd l0_0 0) (rd l0_0 0) a1_0 a1_1 t226 _ ?side1 ?side2 ?side3 ?side4 ?side5 ?side6 A10.out).mono ?_); (case side1 => exact cr_ (Kd.C_below HR0_0.out HB.out)); (case side2 => exact HC0_0.out); (case side3 => exact cr_ (Kd.C_below HR0_1.out HB.out)); (case side4 => exact HC0_1.out); (case side5 => exact cr_ (Kd.C_below HR0_2.out HB.out)); (case side6 => exact HC0_2.out); rintro e w59 ⟨rfl, hb⟩; have n0_ := Aside0.mk (blk_below (bk_ BK221.out) hb); have n1_ := Aside0.mk (blk_below (bk_ BK222.out) hb); have n2_ := Aside0.mk (below_step (bl_ HB.out) hb); clear BK221 BK222 HB; have BK221 := n0_; have BK222 := n1_; have HB := n2_; clear n0_ n1_ n2_; (try clear hb); (try clear hb2); (try clear hk); (try clear hi))); try go_wp2_with (first | ((with_reducible refine gate_dst (N := 3) rfl ?_); refine box_event ?hg (N := 3) ?hd (cs := #[.slice A0_0 l0_0.length c0_0, .slice A0_1 l0_1.length c0_1, .slice A0_2 l0_2.length c0_2]) (t := 25) ?hr ?_; (case hd => rfl); (case hg => rfl); (case hr => first | (go_simp; done) | (go_simp; rfl)); intro gb221 hg w52 hbox hb; have n0_ := Aside0.mk (below_step (bl_ HB.out) hb); have n1_ := Aside0.mk (hbox); have n2_ := Aside0.mk (szl_ hg HB.out); have n3_ := Aside0.mk (szl_ hg HB.out); clear HB; have HB := n0_; have BK221 := n1_; have GW221 := n2_; have GE221 := n3_; clear n0_ n1_ n2_ n3_ hb hbox hg) | ((with_reducible refine gate_dst (N := 4) rfl ?_); refine box_event ?hg (N := 4) ?hd (cs := #[.int .i64 a1_0, .int .i64 a1_1]) (t := 27) ?hr ?_; (case hd => rfl); (case hg => rfl); (case hr => first | (go_simp; done) | (go_simp; rfl)); intro gb222 hg w53 hbox hb; have n0_ := Aside0.mk (blk_below (bk_ BK221.out) hb); have n1_ := Aside0.mk (below_step (bl_ HB.out) hb); have n2_ := Aside0.mk (hbox); have n3_ := Aside0.mk (szl_ hg HB.out); have n4_ := Aside0.mk (szl_ hg HB.out); have n5_ := Aside0.mk (nel_ hg BK221.out); have n6_ := Aside0.mk (ner_ hg BK221.out); clear BK221 HB; have BK221 := n0_; have HB := n1_; have BK222 := n2_; have GW222 := n3_; have GE222 := n4_; have NB221_222 := n5_; have NB222_221 := n6_; clear n0_ n1_ n2_ n3_ n4_ n5_ n6_ hb hbox hg; have hnb54 := NB221_222.out; have hnc54 := NB222_221.out; have hcz55_0 : w53.cell? ⟨gb221, 0, none⟩ = some (.slice A0_0 l0_0.length c0_0) := (blk_cell BK221.out 0).trans rfl; have hcz55_1 : w53.cell? ⟨gb221, 1, none⟩ = some (.slice A0_1 l0_1.length c0_1) := (blk_cell BK221.out 1).trans rfl; have hcz55_2 : w53.cell? ⟨gb221, 2, none⟩ = some (.slice A0_2 l0_2.length c0_2) := (blk_cell BK221.out 2).trans rfl; have hfz55_0 := blk_frozen BK221.out 0; have hfz55_1 := blk_frozen BK221.out 1; have hfz55_2 := blk_frozen BK221.out 2) | (go_at_call 29; (with_reducible refine (spans_CheckTable.calls _ _ l0_0 _ _ l0_1 _ _ l0_2 t223 _ ?side1 ?side2 ?side3 ?side4 ?side5 ?side6 A4.out).mono ?_); (case side1 => exact cr_ (Kd.C_below HR0_0.out HB.out)); (case side2 => exact HC0_0.out); (case side3 => exact cr_ (Kd.C_below HR0_1.out HB.out)); (case side4 => exact HC0_1.out); (case side5 => exact cr_ (Kd.C_below HR0_2.out HB.out)); (case side6 => exact HC0_2.out); rintro e w56 ⟨rfl, hb⟩; have n0_ := Aside0.mk (blk_below (bk_ BK221.out) hb); have n1_ := Aside0.mk (blk_below (bk_ BK222.out) hb); have n2_ := Aside0.mk (below_step (bl_ HB.out) hb); clear BK221 BK222 HB; have BK221 := n0_; have BK222 := n1_; have HB := n2_; clear n0_ n1_ n2_; (try clear hb); (try clear hb2); (try clear hk); (try clear hi); have hcz57_0 : w56.cell? ⟨gb221, 0, none⟩ = some (.slice A0_0 l0_0.length c0_0) := (blk_cell BK221.out 0).trans rfl; have hcz57_1 : w56.cell? ⟨gb221, 1, none⟩ = some (.slice A0_1 l0_1.length c0_1) := (blk_cell BK221.out 1).trans rfl; have hcz57_2 : w56.cell? ⟨gb221, 2, none⟩ = some (.slice A0_2 l0_2.length c0_2) := (blk_cell BK221.out 2).trans rfl; have hfz57_0 := blk_frozen BK221.out 0; have hfz57_1 := blk_frozen BK221.out 1; have hfz57_2 := blk_frozen BK221.out 2; have p224 : 0 ≤ (0 : Int) := (by omega); have q224 : 0 < (l0_0.length : Int) := of_decide_eq_true (by first | (with_reducible assumption) | assumption); obtain ⟨ad224, e224, hx224_0⟩ := Kd.at_int HR0_0.out 0 p224 q224; cases e224; have qi224 : (0 < l0_0.length) = True := eq_true (by omega); (try rw [show ((0 : Int)).toNat = 0 from rfl] at hx224_0); (try rw [Addr.add_zero'] at hx224_0); replace hx224_0 := (HB.out.cell (World.block_lt_of_cell? w _ hx224_0)).trans hx224_0; replace p224 := eq_true p224; replace q224 := eq_true q224; have p225 : 0 ≤ ((ji7) : Int) := of_decide_eq_true (by first | (with_reducible assumption) | assumption); have q225 : (ji7) < (l0_0.length : Int) := of_decide_eq_true (by first | (with_reducible assumption) | assumption); obtain ⟨ad225, e225, hx225_0⟩ := Kd.at_int HR0_0.out (ji7) p225 q225; obtain rfl : ad224 = ad225 := (by injection e225); replace hx225_0 := (HB.out.cell (World.block_lt_of_cell? w _ hx225_0)).trans hx225_0; replace p225 := eq_true p225; replace q225 := eq_true q225; have hcz58_0 : w56.cell? ⟨gb222, 0, none⟩ = some (.int .i64 a1_0) := (blk_cell BK222.out 0).trans rfl; have hcz58_1 : w56.cell? ⟨gb222, 1, none⟩ = some (.int .i64 a1_1) := (blk_cell BK222.out 1).trans rfl; have hfz58_0 := blk_frozen BK222.out 0; have hfz58_1 := blk_frozen BK222.out 1) | (go_at_call 88; (with_reducible refine (spans_checkPoints.calls _ _ l0_0 _ _ l0_1 _ _ l0_2 (rd l0_0 0) (rd l0_0 0) a1_0 a1_1 t226 _ ?side1 ?side2 ?side3 ?side4 ?side5 ?side6 A10.out).mono ?_); (case side1 => exact cr_ (Kd.C_below HR0_0.out HB.out)); (case side2 => exact HC0_0.out); (case side3 => exact cr_ (Kd.C_below HR0_1.out HB.out)); (case side4 => exact HC0_1.out); (case side5 => exact cr_ (Kd.C_below HR0_2.out HB.out)); (case side6 => exact HC0_2.out); rintro e w59 ⟨rfl, hb⟩; have n0_ := Aside0.mk (blk_below (bk_ BK221.out) hb); have n1_ := Aside0.mk (blk_below (bk_ BK222.out) hb); have n2_ := Aside0.mk (below_step (bl_ HB.out) hb); clear BK221 BK222 HB; have BK221 := n0_; have BK222 := n1_; have HB := n2_; clear n0_ n1_ n2_; (try clear hb); (try clear hb2); (try clear hk); (try clear hi))))
      go_ret2
      exact ⟨by first | rfl | (simp [errW_none, errW_some] <;> rfl) | (simp only [← hji7]; first | rfl | (simp [errW_none, errW_some] <;> rfl)) | (simp [*, errW_none, errW_some] <;> rfl), bl_ HB.out⟩
    ·
     rw [if_neg c9] at H
     exact absurd H (by simp)
   ·
    rw [if_neg c8] at H
    exact absurd H (by simp)
  ·
   rw [if_neg c6] at H
   exact absurd H (by simp)
 ·
  rw [if_neg c5] at H
  have c5b0 : (t223 == 0) = false := beq_eq_false_iff_ne.mpr c5
  have c5b1 : (t223 != 0) = true := bne_iff_ne.mpr c5
  simp only [Option.some.injEq, Prod.mk.injEq] at H
  obtain ⟨rfl, rfl⟩ := H
  go_enter Try.func23, Try.ntmps23
  go_wp2_with (first | ((with_reducible refine gate_dst (N := 3) rfl ?_); refine box_event ?hg (N := 3) ?hd (cs := #[.slice A0_0 l0_0.length c0_0, .slice A0_1 l0_1.length c0_1, .slice A0_2 l0_2.length c0_2]) (t := 25) ?hr ?_; (case hd => rfl); (case hg => rfl); (case hr => first | (go_simp; done) | (go_simp; rfl)); intro gb221 hg w60 hbox hb; have n0_ := Aside0.mk (below_step (bl_ HB.out) hb); have n1_ := Aside0.mk (hbox); have n2_ := Aside0.mk (szl_ hg HB.out); have n3_ := Aside0.mk (szl_ hg HB.out); clear HB; have HB := n0_; have BK221 := n1_; have GW221 := n2_; have GE221 := n3_; clear n0_ n1_ n2_ n3_ hb hbox hg) | ((with_reducible refine gate_dst (N := 4) rfl ?_); refine box_event ?hg (N := 4) ?hd (cs := #[.int .i64 a1_0, .int .i64 a1_1]) (t := 27) ?hr ?_; (case hd => rfl); (case hg => rfl); (case hr => first | (go_simp; done) | (go_simp; rfl)); intro gb222 hg w61 hbox hb; have n0_ := Aside0.mk (blk_below (bk_ BK221.out) hb); have n1_ := Aside0.mk (below_step (bl_ HB.out) hb); have n2_ := Aside0.mk (hbox); have n3_ := Aside0.mk (szl_ hg HB.out); have n4_ := Aside0.mk (szl_ hg HB.out); have n5_ := Aside0.mk (nel_ hg BK221.out); have n6_ := Aside0.mk (ner_ hg BK221.out); clear BK221 HB; have BK221 := n0_; have HB := n1_; have BK222 := n2_; have GW222 := n3_; have GE222 := n4_; have NB221_222 := n5_; have NB222_221 := n6_; clear n0_ n1_ n2_ n3_ n4_ n5_ n6_ hb hbox hg; have hnb62 := NB221_222.out; have hnc62 := NB222_221.out; have hcz63_0 : w61.cell? ⟨gb221, 0, none⟩ = some (.slice A0_0 l0_0.length c0_0) := (blk_cell BK221.out 0).trans rfl; have hcz63_1 : w61.cell? ⟨gb221, 1, none⟩ = some (.slice A0_1 l0_1.length c0_1) := (blk_cell BK221.out 1).trans rfl; have hcz63_2 : w61.cell? ⟨gb221, 2, none⟩ = some (.slice A0_2 l0_2.length c0_2) := (blk_cell BK221.out 2).trans rfl; have hfz63_0 := blk_frozen BK221.out 0; have hfz63_1 := blk_frozen BK221.out 1; have hfz63_2 := blk_frozen BK221.out 2) | (go_at_call 29; (with_reducible refine (spans_CheckTable.calls _ _ l0_0 _ _ l0_1 _ _ l0_2 t223 _ ?side1 ?side2 ?side3 ?side4 ?side5 ?side6 A4.out).mono ?_); (case side1 => exact cr_ (Kd.C_below HR0_0.out HB.out)); (case side2 => exact HC0_0.out); (case side3 => exact cr_ (Kd.C_below HR0_1.out HB.out)); (case side4 => exact HC0_1.out); (case side5 => exact cr_ (Kd.C_below HR0_2.out HB.out)); (case side6 => exact HC0_2.out); rintro e w64 ⟨rfl, hb⟩; have n0_ := Aside0.mk (blk_below (bk_ BK221.out) hb); have n1_ := Aside0.mk (blk_below (bk_ BK222.out) hb); have n2_ := Aside0.mk (below_step (bl_ HB.out) hb); clear BK221 BK222 HB; have BK221 := n0_; have BK222 := n1_; have HB := n2_; clear n0_ n1_ n2_; (try clear hb); (try clear hb2); (try clear hk); (try clear hi)))
  go_ret2
  exact ⟨by first | rfl | (simp [errW_none, errW_some] <;> rfl) | (simp [*, errW_none, errW_some] <;> rfl), bl_ HB.out⟩
end Go.Proofs.Yteodlmgmmpkpoaa.PS
end
section
namespace Go.Proofs.Yteodlmgmmpkpoaa.PS
open Go.RowKit Go.Proofs.YteodlmgmmpkpoaaW.PrintWords Go.Proofs.YteodlmgmmpkpoaaW.PrintLast Go.Proofs.YteodlmgmmpkpoaaW.PrintMore
attribute [local go_sem] max2_int min2_int max_two min_two max_three min_three max_four min_four   -- for this text's walks alone
set_option linter.unusedVariables false
set_option linter.unusedSimpArgs false
def swashplatelaw01_Example.f  : Option (List Int × List Int × (List (List Int))) := some ((([0, 10, 20] : List Int)), (([0, 5] : List Int)), (([(([0, 10] : List Int)), (([20, 30] : List Int)), (([10, 50] : List Int))] : List (List Int))))
set_option maxHeartbeats 8000000 in
set_option maxRecDepth 100000 in
theorem swashplatelaw01_Example.calls  (r1 : List Int) (r2 : List Int) (r3 : List (List Int)) (w : World) (h : swashplatelaw01_Example.f  = some (r1, r2, r3)) :
  Calls Try.prog 87 #[] w fun e w' => ∃ v0_ v1_ v2_ : Value, e = .returned (.agg #[v0_, v1_, v2_]) ∧ Kd.R (Kd.int .i64) 3 w' w.heap.size (fun k_ => (w.heap.size ≤ k_) ∧ some k_ ≠ (v1_ : Value).ownBlock) v0_ r1 ∧ Kd.R (Kd.int .i64) 3 w' w.heap.size (fun k_ => (w.heap.size ≤ k_) ∧ some k_ ≠ (v0_ : Value).ownBlock) v1_ r2 ∧ Kd.N (Kd.slice 3 (Kd.int .i64)) 22 w' w.heap.size (fun k_ => (w.heap.size ≤ k_) ∧ some k_ ≠ (v0_ : Value).ownBlock ∧ some k_ ≠ (v1_ : Value).ownBlock) v2_ r3 ∧ Below w.heap.size w w' := by
 have hu25 := Try.underlying25
 have HB := Aside0.mk (Below.refl w.heap.size w)
 have H : (some ((([0, 10, 20] : List Int)), (([0, 5] : List Int)), (([(([0, 10] : List Int)), (([20, 30] : List Int)), (([10, 50] : List Int))] : List (List Int))))) = some (r1, r2, r3) := h
 clear h
 obtain ⟨y256, hy256⟩ : ∃ y_ : List Int, y_ = (([0, 10, 20] : List Int)) := ⟨_, rfl⟩
 replace H : (some (y256, (([0, 5] : List Int)), (([(([0, 10] : List Int)), (([20, 30] : List Int)), (([10, 50] : List Int))] : List (List Int))))) = some (r1, r2, r3) := by first | (rw [hy256]; with_reducible exact H) | (have H2_ := (Option.bind_some _ _).symm.trans H; rw [hy256]; with_reducible exact H2_) | (have H2_ := (Option.bind_some _ _).symm.trans H; with_reducible exact H2_) | with_reducible exact H | (rw [hy256]; exact H) | exact H
 have Ny256 := Aside0.mk hy256
 clear hy256
 obtain ⟨y259, hy259⟩ : ∃ y_ : List Int, y_ = (([0, 5] : List Int)) := ⟨_, rfl⟩
 replace H : (some (y256, y259, (([(([0, 10] : List Int)), (([20, 30] : List Int)), (([10, 50] : List Int))] : List (List Int))))) = some (r1, r2, r3) := by first | (rw [hy259]; with_reducible exact H) | (have H2_ := (Option.bind_some _ _).symm.trans H; rw [hy259]; with_reducible exact H2_) | (have H2_ := (Option.bind_some _ _).symm.trans H; with_reducible exact H2_) | with_reducible exact H | (rw [hy259]; exact H) | exact H
 have Ny259 := Aside0.mk hy259
 clear hy259
 obtain ⟨y262, hy262⟩ : ∃ y_ : List Int, y_ = (([0, 10] : List Int)) := ⟨_, rfl⟩
 replace H : (some (y256, y259, (([y262, (([20, 30] : List Int)), (([10, 50] : List Int))] : List (List Int))))) = some (r1, r2, r3) := by first | (rw [hy262]; with_reducible exact H) | (have H2_ := (Option.bind_some _ _).symm.trans H; rw [hy262]; with_reducible exact H2_) | (have H2_ := (Option.bind_some _ _).symm.trans H; with_reducible exact H2_) | with_reducible exact H | (rw [hy262]; exact H) | exact H
 have Ny262 := Aside0.mk hy262
 clear hy262
 obtain ⟨y265, hy265⟩ : ∃ y_ : List Int, y_ = (([20, 30] : List Int)) := ⟨_, rfl⟩
 replace H : (some (y256, y259, (([y262, y265, (([10, 50] : List Int))] : List (List Int))))) = some (r1, r2, r3) := by first | (rw [hy265]; with_reducible exact H) | (have H2_ := (Option.bind_some _ _).symm.trans H; rw [hy265]; with_reducible exact H2_) | (have H2_ := (Option.bind_some _ _).symm.trans H; with_reducible exact H2_) | with_reducible exact H | (rw [hy265]; exact H) | exact H
 have Ny265 := Aside0.mk hy265
 clear hy265
 obtain ⟨y268, hy268⟩ : ∃ y_ : List Int, y_ = (([10, 50] : List Int)) := ⟨_, rfl⟩
 replace H : (some (y256, y259, (([y262, y265, y268] : List (List Int))))) = some (r1, r2, r3) := by first | (rw [hy268]; with_reducible exact H) | (have H2_ := (Option.bind_some _ _).symm.trans H; rw [hy268]; with_reducible exact H2_) | (have H2_ := (Option.bind_some _ _).symm.trans H; with_reducible exact H2_) | with_reducible exact H | (rw [hy268]; exact H) | exact H
 have Ny268 := Aside0.mk hy268
 clear hy268
 obtain ⟨y271, hy271⟩ : ∃ y_ : List (List Int), y_ = (([y262, y265, y268] : List (List Int))) := ⟨_, rfl⟩
 replace H : (some (y256, y259, y271)) = some (r1, r2, r3) := by first | (rw [hy271]; with_reducible exact H) | (have H2_ := (Option.bind_some _ _).symm.trans H; rw [hy271]; with_reducible exact H2_) | (have H2_ := (Option.bind_some _ _).symm.trans H; with_reducible exact H2_) | with_reducible exact H | (rw [hy271]; exact H) | exact H
 have Ny271 := Aside0.mk hy271
 clear hy271
 simp only [Option.some.injEq, Prod.mk.injEq] at H
 obtain ⟨rfl, rfl, rfl⟩ := H
 go_enter Try.func87, Try.ntmps87
 go_wp2_with (first | ((with_reducible refine gate_dst (N := 0) rfl ?_); refine box_event ?hg (N := 0) ?hd (cs := #[.slice none 0 0, .slice none 0 0, .slice none 0 0]) (t := 25) ?hr ?_; (case hd => rfl); (case hg => rfl); (case hr => first | (go_simp; done) | (go_simp; rfl)); intro gb255 hg w1 hbox hb; have n0_ := Aside0.mk (below_step (bl_ HB.out) hb); have n1_ := Aside0.mk (hbox); have n2_ := Aside0.mk (szl_ hg HB.out); have n3_ := Aside0.mk (szl_ hg HB.out); clear HB; have HB := n0_; have BK255 := n1_; have GW255 := n2_; have GE255 := n3_; clear n0_ n1_ n2_ n3_ hb hbox hg) | ((with_reducible refine gate_dst (N := 1) rfl ?_); refine Kd.R_lit (Kd.int .i64) _ 3 ?hg (N := 1) ?hd (xs := ([0, 10, 20] : List Int)) (inner := [.int .i64 0, .int .i64 10, .int .i64 20]) (ok := fun _ => True) (okp := fun _ => True) ?hr ?hp (fun _ hk => hk) trivial (Below.refl _ _) (Nat.le_refl _) (by simp) ?_; (case hd => rfl); (case hg => rfl); (case hr => first | (go_simp; done) | (go_simp; rfl)); (case hp => exact (Reps.one (show Kd.M (Kd.int .i64) _ _ _ 0 [.int .i64 0] from rfl) (Reps.one (show Kd.M (Kd.int .i64) _ _ _ 10 [.int .i64 10] from rfl) (Reps.one (show Kd.M (Kd.int .i64) _ _ _ 20 [.int .i64 20] from rfl) (Reps.none _ _))))); intro v257 w2 ho3 hb hg_ hnew_; clear hg_ hnew_; (first | rw [← Ny256.out] at ho3 | (simp only [Int.reduceToNat] at ho3; rw [← Ny256.out] at ho3)); have n0_ := Aside0.mk (Kd.R_lower (Kd.R_newM (M := fun k_ => (w.heap.size ≤ k_)) ho3 (below_size (bl_ HB.out)) (fun k_ h_ => h_)) (below_size (bl_ HB.out))); have n1_ := Aside0.mk (blk_below (bk_ BK255.out) hb); have n2_ := Aside0.mk (below_step (bl_ HB.out) hb); clear BK255 HB; have HO258 := n0_; have BK255 := n1_; have HB := n2_; clear n0_ n1_ n2_ hb ho3) | ((with_reducible refine gate_dst (N := 2) rfl ?_); refine Kd.R_lit (Kd.int .i64) _ 3 ?hg (N := 2) ?hd (xs := ([0, 5] : List Int)) (inner := [.int .i64 0, .int .i64 5]) (ok := fun _ => True) (okp := fun _ => True) ?hr ?hp (fun _ hk => hk) trivial (Below.refl _ _) (Nat.le_refl _) (by simp) ?_; (case hd => rfl); (case hg => rfl); (case hr => first | (go_simp; done) | (go_simp; rfl)); (case hp => exact (Reps.one (show Kd.M (Kd.int .i64) _ _ _ 0 [.int .i64 0] from rfl) (Reps.one (show Kd.M (Kd.int .i64) _ _ _ 5 [.int .i64 5] from rfl) (Reps.none _ _)))); intro v260 w4 ho5 hb hg_ hnew_; clear hg_ hnew_; (first | rw [← Ny259.out] at ho5 | (simp only [Int.reduceToNat] at ho5; rw [← Ny259.out] at ho5)); have n0_ := Aside0.mk (Kd.R_elder' (by (with_reducible repeat (first | apply Kd.R_alloc | apply Kd.R_drewN | apply Kd.R_drew)); exact HO258.out) (Kd.R_base ho5) hb); have n1_ := Aside0.mk (Kd.R_lower (Kd.R_new' (Kd.R_newM (M := fun k_ => (w.heap.size ≤ k_)) ho5 (below_size (bl_ HB.out)) (fun k_ h_ => h_)) (Kd.R_lt (by (with_reducible repeat (first | apply Kd.R_alloc | apply Kd.R_drewN | apply Kd.R_drew)); exact HO258.out))) (below_size (bl_ HB.out))); have n2_ := Aside0.mk (blk_below (bk_ BK255.out) hb); have n3_ := Aside0.mk (below_step (bl_ HB.out) hb); clear HO258 BK255 HB; have HO258 := n0_; have HO261 := n1_; have BK255 := n2_; have HB := n3_; clear n0_ n1_ n2_ n3_ hb ho5) | ((with_reducible refine gate_dst (N := 3) rfl ?_); refine Kd.R_lit (Kd.int .i64) _ 3 ?hg (N := 3) ?hd (xs := ([0, 10] : List Int)) (inner := [.int .i64 0, .int .i64 10]) (ok := fun _ => True) (okp := fun _ => True) ?hr ?hp (fun _ hk => hk) trivial (Below.refl _ _) (Nat.le_refl _) (by simp) ?_; (case hd => rfl); (case hg => rfl); (case hr => first | (go_simp; done) | (go_simp; rfl)); (case hp => exact (Reps.one (show Kd.M (Kd.int .i64) _ _ _ 0 [.int .i64 0] from rfl) (Reps.one (show Kd.M (Kd.int .i64) _ _ _ 10 [.int .i64 10] from rfl) (Reps.none _ _)))); intro v263 w6 ho7 hb hg_ hnew_; clear hg_ hnew_; (first | rw [← Ny262.out] at ho7 | (simp only [Int.reduceToNat] at ho7; rw [← Ny262.out] at ho7)); have n0_ := Aside0.mk (Kd.R_elder' (by (with_reducible repeat (first | apply Kd.R_alloc | apply Kd.R_drewN | apply Kd.R_drew)); exact HO258.out) (Kd.R_base ho7) hb); have n1_ := Aside0.mk (Kd.R_elder' (by (with_reducible repeat (first | apply Kd.R_alloc | apply Kd.R_drewN | apply Kd.R_drew)); exact HO261.out) (Kd.R_base ho7) hb); have n2_ := Aside0.mk (Kd.R_lower (Kd.R_new' (Kd.R_new' (Kd.R_newM (M := fun k_ => (w.heap.size ≤ k_)) ho7 (below_size (bl_ HB.out)) (fun k_ h_ => h_)) (Kd.R_lt (by (with_reducible repeat (first | apply Kd.R_alloc | apply Kd.R_drewN | apply Kd.R_drew)); exact HO258.out))) (Kd.R_lt (by (with_reducible repeat (first | apply Kd.R_alloc | apply Kd.R_drewN | apply Kd.R_drew)); exact HO261.out))) (below_size (bl_ HB.out))); have n3_ := Aside0.mk (blk_below (bk_ BK255.out) hb); have n4_ := Aside0.mk (below_step (bl_ HB.out) hb); clear HO258 HO261 BK255 HB; have HO258 := n0_; have HO261 := n1_; have HO264 := n2_; have BK255 := n3_; have HB := n4_; clear n0_ n1_ n2_ n3_ n4_ hb ho7) | ((with_reducible refine gate_dst (N := 4) rfl ?_); refine Kd.R_lit (Kd.int .i64) _ 3 ?hg (N := 4) ?hd (xs := ([20, 30] : List Int)) (inner := [.int .i64 20, .int .i64 30]) (ok := fun _ => True) (okp := fun _ => True) ?hr ?hp (fun _ hk => hk) trivial (Below.refl _ _) (Nat.le_refl _) (by simp) ?_; (case hd => rfl); (case hg => rfl); (case hr => first | (go_simp; done) | (go_simp; rfl)); (case hp => exact (Reps.one (show Kd.M (Kd.int .i64) _ _ _ 20 [.int .i64 20] from rfl) (Reps.one (show Kd.M (Kd.int .i64) _ _ _ 30 [.int .i64 30] from rfl) (Reps.none _ _)))); intro v266 w8 ho9 hb hg_ hnew_; clear hg_ hnew_; (first | rw [← Ny265.out] at ho9 | (simp only [Int.reduceToNat] at ho9; rw [← Ny265.out] at ho9)); have n0_ := Aside0.mk (Kd.R_elder' (by (with_reducible repeat (first | apply Kd.R_alloc | apply Kd.R_drewN | apply Kd.R_drew)); exact HO258.out) (Kd.R_base ho9) hb); have n1_ := Aside0.mk (Kd.R_elder' (by (with_reducible repeat (first | apply Kd.R_alloc | apply Kd.R_drewN | apply Kd.R_drew)); exact HO261.out) (Kd.R_base ho9) hb); have n2_ := Aside0.mk (Kd.R_elder' (by (with_reducible repeat (first | apply Kd.R_alloc | apply Kd.R_drewN | apply Kd.R_drew)); exact HO264.out) (Kd.R_base ho9) hb); have n3_ := Aside0.mk (Kd.R_lower (Kd.R_new' (Kd.R_new' (Kd.R_new' (Kd.R_newM (M := fun k_ => (w.heap.size ≤ k_)) ho9 (below_size (bl_ HB.out)) (fun k_ h_ => h_)) (Kd.R_lt (by (with_reducible repeat (first | apply Kd.R_alloc | apply Kd.R_drewN | apply Kd.R_drew)); exact HO258.out))) (Kd.R_lt (by (with_reducible repeat (first | apply Kd.R_alloc | apply Kd.R_drewN | apply Kd.R_drew)); exact HO261.out))) (Kd.R_lt (by (with_reducible repeat (first | apply Kd.R_alloc | apply Kd.R_drewN | apply Kd.R_drew)); exact HO264.out))) (below_size (bl_ HB.out))); have n4_ := Aside0.mk (blk_below (bk_ BK255.out) hb); have n5_ := Aside0.mk (below_step (bl_ HB.out) hb); clear HO258 HO261 HO264 BK255 HB; have HO258 := n0_; have HO261 := n1_; have HO264 := n2_; have HO267 := n3_; have BK255 := n4_; have HB := n5_; clear n0_ n1_ n2_ n3_ n4_ n5_ hb ho9) | ((with_reducible refine gate_dst (N := 5) rfl ?_); refine Kd.R_lit (Kd.int .i64) _ 3 ?hg (N := 5) ?hd (xs := ([10, 50] : List Int)) (inner := [.int .i64 10, .int .i64 50]) (ok := fun _ => True) (okp := fun _ => True) ?hr ?hp (fun _ hk => hk) trivial (Below.refl _ _) (Nat.le_refl _) (by simp) ?_; (case hd => rfl); (case hg => rfl); (case hr => first | (go_simp; done) | (go_simp; rfl)); (case hp => exact (Reps.one (show Kd.M (Kd.int .i64) _ _ _ 10 [.int .i64 10] from rfl) (Reps.one (show Kd.M (Kd.int .i64) _ _ _ 50 [.int .i64 50] from rfl) (Reps.none _ _)))); intro v269 w10 ho11 hb hg_ hnew_; clear hg_ hnew_; (first | rw [← Ny268.out] at ho11 | (simp only [Int.reduceToNat] at ho11; rw [← Ny268.out] at ho11)); have n0_ := Aside0.mk (Kd.R_elder' (by (with_reducible repeat (first | apply Kd.R_alloc | apply Kd.R_drewN | apply Kd.R_drew)); exact HO258.out) (Kd.R_base ho11) hb); have n1_ := Aside0.mk (Kd.R_elder' (by (with_reducible repeat (first | apply Kd.R_alloc | apply Kd.R_drewN | apply Kd.R_drew)); exact HO261.out) (Kd.R_base ho11) hb); have n2_ := Aside0.mk (Kd.R_elder' (by (with_reducible repeat (first | apply Kd.R_alloc | apply Kd.R_drewN | apply Kd.R_drew)); exact HO264.out) (Kd.R_base ho11) hb); have n3_ := Aside0.mk (Kd.R_elder' (by (with_reducible repeat (first | apply Kd.R_alloc | apply Kd.R_drewN | apply Kd.R_drew)); exact HO267.out) (Kd.R_base ho11) hb); have n4_ := Aside0.mk (Kd.R_lower (Kd.R_new' (Kd.R_new' (Kd.R_new' (Kd.R_new' (Kd.R_newM (M := fun k_ => (w.heap.size ≤ k_)) ho11 (below_size (bl_ HB.out)) (fun k_ h_ => h_)) (Kd.R_lt (by (with_reducible repeat (first | apply Kd.R_alloc | apply Kd.R_drewN | apply Kd.R_drew)); exact HO258.out))) (Kd.R_lt (by (with_reducible repeat (first | apply Kd.R_alloc | apply Kd.R_drewN | apply Kd.R_drew)); exact HO261.out))) (Kd.R_lt (by (with_reducible repeat (first | apply Kd.R_alloc | apply Kd.R_drewN | apply Kd.R_drew)); exact HO264.out))) (Kd.R_lt (by (with_reducible repeat (first | apply Kd.R_alloc | apply Kd.R_drewN | apply Kd.R_drew)); exact HO267.out))) (below_size (bl_ HB.out))); have n5_ := Aside0.mk (blk_below (bk_ BK255.out) hb); have n6_ := Aside0.mk (below_step (bl_ HB.out) hb); clear HO258 HO261 HO264 HO267 BK255 HB; have HO258 := n0_; have HO261 := n1_; have HO264 := n2_; have HO267 := n3_; have HO270 := n4_; have BK255 := n5_; have HB := n6_; clear n0_ n1_ n2_ n3_ n4_ n5_ n6_ hb ho11; obtain ⟨Ao12, co12, eo12⟩ := Kd.R_slice HO264.out; subst eo12; obtain ⟨Ao13, co13, eo13⟩ := Kd.R_slice HO267.out; subst eo13; obtain ⟨Ao14, co14, eo14⟩ := Kd.R_slice HO270.out; subst eo14) | ((with_reducible refine gate_dst (N := 6) rfl ?_); refine Kd.N_lit (Kd.slice 3 (Kd.int .i64)) _ 22 ?hg (N' := 6) ?hd (xs := ([y262, y265, y268] : List (List Int))) (inner := [.slice Ao12 y262.length co12, .slice Ao13 y265.length co13, .slice Ao14 y268.length co14]) (ok := (fun k_ => (w.heap.size ≤ k_) ∧ some k_ ≠ (v257 : Value).ownBlock ∧ some k_ ≠ (v260 : Value).ownBlock ∧ k_ ≠ gb255)) (okp := (fun k_ => (w.heap.size ≤ k_) ∧ some k_ ≠ (v257 : Value).ownBlock ∧ some k_ ≠ (v260 : Value).ownBlock ∧ k_ ≠ gb255)) ?hr ?hp (fun _ hk => hk) ((show ∀ k_, w10.heap.size ≤ k_ → (fun k_ => (w.heap.size ≤ k_) ∧ some k_ ≠ (v257 : Value).ownBlock ∧ some k_ ≠ (v260 : Value).ownBlock ∧ k_ ≠ gb255) k_ from fun k_ hk => ⟨(Nat.le_trans (below_size (bl_ HB.out)) hk), Kd.fresh' (Kd.R_lt (by (with_reducible repeat (first | apply Kd.R_alloc | apply Kd.R_drewN | apply Kd.R_drew)); exact HO258.out)) k_ hk, Kd.fresh' (Kd.R_lt (by (with_reducible repeat (first | apply Kd.R_alloc | apply Kd.R_drewN | apply Kd.R_drew)); exact HO261.out)) k_ hk, Kd.freshB (bk_ BK255.out) k_ hk⟩) _ (Nat.le_refl _)) (Below.refl _ _) (Nat.le_refl _) (by simp) ?_; (case hd => rfl); (case hg => rfl); (case hr => first | (go_simp; done) | (go_simp; rfl)); (case hp => exact (Reps.one (show Kd.FK (Kd.slice 3 (Kd.int .i64)) _ _ y262 [.slice Ao12 y262.length co12] from (Kd.FK_slice_mk (Kd.R_reads' (Kd.R_mono (ok' := (fun k_ => (w.heap.size ≤ k_) ∧ some k_ ≠ (v257 : Value).ownBlock ∧ some k_ ≠ (v260 : Value).ownBlock ∧ k_ ≠ gb255)) (Kd.R_types (HO264.out) BK255.out (by decide)) (fun k_ hk => ⟨hk.1.1.1.1.1.1, ⟨hk.1.1.1.1.2, ⟨hk.1.1.1.2, hk.2⟩⟩⟩))).2.1 (Kd.R_F (Kd.R_mono (ok' := (fun k_ => (w.heap.size ≤ k_) ∧ some k_ ≠ (v257 : Value).ownBlock ∧ some k_ ≠ (v260 : Value).ownBlock ∧ k_ ≠ gb255)) (Kd.R_types (HO264.out) BK255.out (by decide)) (fun k_ hk => ⟨hk.1.1.1.1.1.1, ⟨hk.1.1.1.1.2, ⟨hk.1.1.1.2, hk.2⟩⟩⟩))))) (Reps.one (show Kd.FK (Kd.slice 3 (Kd.int .i64)) _ _ y265 [.slice Ao13 y265.length co13] from (Kd.FK_slice_mk (Kd.R_reads' (Kd.R_mono (ok' := (fun k_ => (w.heap.size ≤ k_) ∧ some k_ ≠ (v257 : Value).ownBlock ∧ some k_ ≠ (v260 : Value).ownBlock ∧ k_ ≠ gb255)) (Kd.R_types (HO267.out) BK255.out (by decide)) (fun k_ hk => ⟨hk.1.1.1.1.1.1, ⟨hk.1.1.1.1.2, ⟨hk.1.1.1.2, hk.2⟩⟩⟩))).2.1 (Kd.R_F (Kd.R_mono (ok' := (fun k_ => (w.heap.size ≤ k_) ∧ some k_ ≠ (v257 : Value).ownBlock ∧ some k_ ≠ (v260 : Value).ownBlock ∧ k_ ≠ gb255)) (Kd.R_types (HO267.out) BK255.out (by decide)) (fun k_ hk => ⟨hk.1.1.1.1.1.1, ⟨hk.1.1.1.1.2, ⟨hk.1.1.1.2, hk.2⟩⟩⟩))))) (Reps.one (show Kd.FK (Kd.slice 3 (Kd.int .i64)) _ _ y268 [.slice Ao14 y268.length co14] from (Kd.FK_slice_mk (Kd.R_reads' (Kd.R_mono (ok' := (fun k_ => (w.heap.size ≤ k_) ∧ some k_ ≠ (v257 : Value).ownBlock ∧ some k_ ≠ (v260 : Value).ownBlock ∧ k_ ≠ gb255)) (Kd.R_types (HO270.out) BK255.out (by decide)) (fun k_ hk => ⟨hk.1.1.1.1.1.1, ⟨hk.1.1.1.1.2, ⟨hk.1.1.1.2, hk.2⟩⟩⟩))).2.1 (Kd.R_F (Kd.R_mono (ok' := (fun k_ => (w.heap.size ≤ k_) ∧ some k_ ≠ (v257 : Value).ownBlock ∧ some k_ ≠ (v260 : Value).ownBlock ∧ k_ ≠ gb255)) (Kd.R_types (HO270.out) BK255.out (by decide)) (fun k_ hk => ⟨hk.1.1.1.1.1.1, ⟨hk.1.1.1.1.2, ⟨hk.1.1.1.2, hk.2⟩⟩⟩))))) (Reps.none _ _))))); intro v272 w15 ho16 hb hg_ hnew_; clear hg_ hnew_; (first | rw [← Ny271.out] at ho16 | (simp only [Int.reduceToNat] at ho16; rw [← Ny271.out] at ho16)); have n0_ := Aside0.mk (Kd.R_below (by (with_reducible repeat (first | apply Kd.R_alloc | apply Kd.R_drewN | apply Kd.R_drew)); exact HO258.out) hb); have n1_ := Aside0.mk (Kd.R_below (by (with_reducible repeat (first | apply Kd.R_alloc | apply Kd.R_drewN | apply Kd.R_drew)); exact HO261.out) hb); have n2_ := Aside0.mk (Kd.N_lower ho16 (below_size (bl_ HB.out))); have n3_ := Aside0.mk (blk_below (bk_ BK255.out) hb); have n4_ := Aside0.mk (below_step (bl_ HB.out) hb); clear HO258 HO261 BK255 HB HO264 HO267 HO270; have HO258 := n0_; have HO261 := n1_; have HO273 := n2_; have BK255 := n3_; have HB := n4_; clear n0_ n1_ n2_ n3_ n4_ hb ho16; obtain ⟨Ao17, co17, eo17⟩ := Kd.N_slice HO273.out; subst eo17; obtain ⟨Ao18, co18, eo18⟩ := Kd.R_slice HO261.out; subst eo18; obtain ⟨Ao19, co19, eo19⟩ := Kd.R_slice HO258.out; subst eo19; have hcz20_0 : w15.cell? ⟨gb255, 0, none⟩ = some (.slice none 0 0) := (blk_cell BK255.out 0).trans rfl; have hcz20_1 : w15.cell? ⟨gb255, 1, none⟩ = some (.slice none 0 0) := (blk_cell BK255.out 1).trans rfl; have hcz20_2 : w15.cell? ⟨gb255, 2, none⟩ = some (.slice none 0 0) := (blk_cell BK255.out 2).trans rfl; have hfz20_0 := blk_frozen BK255.out 0; have hfz20_1 := blk_frozen BK255.out 1; have hfz20_2 := blk_frozen BK255.out 2))
 refine bodyPost_ret (results_cell_row rfl _ _ gb255 25 #[.slice Ao19 y256.length co19, .slice Ao18 y259.length co18, .slice Ao17 y271.length co17] (0, 0) _ rfl (by (with_reducible repeat (first | refine blk_drewN ?_ _ | refine blk_drew ?_ | refine blk_alloc ?_ _)); refine blk_put (cs := #[.slice Ao19 y256.length co19, .slice Ao18 y259.length co18, .slice none 0 0]) ?_ 2 _ rfl; (with_reducible repeat (first | refine blk_drewN ?_ _ | refine blk_drew ?_ | refine blk_alloc ?_ _)); refine blk_put (cs := #[.slice Ao19 y256.length co19, .slice none 0 0, .slice none 0 0]) ?_ 1 _ rfl; (with_reducible repeat (first | refine blk_drewN ?_ _ | refine blk_drew ?_ | refine blk_alloc ?_ _)); refine blk_put (cs := #[.slice none 0 0, .slice none 0 0, .slice none 0 0]) ?_ 0 _ rfl; (with_reducible repeat (first | refine blk_drewN ?_ _ | refine blk_drew ?_ | refine blk_alloc ?_ _)); exact BK255.out) Try.underlying25 rfl (by kernel_rfl)) rfl ?_
 exact ⟨_, _, _, by first | rfl | (simp [errW_none, errW_some] <;> rfl) | (simp [*, errW_none, errW_some] <;> rfl), by (with_reducible repeat (first | apply Kd.R_alloc | apply Kd.R_drewN | apply Kd.R_drew)); exact Kd.R_mono (Kd.R_far (p := ⟨gb255, 2, none⟩) (Kd.R_far (p := ⟨gb255, 1, none⟩) (Kd.R_far (p := ⟨gb255, 0, none⟩) (Kd.R_types HO258.out BK255.out (by decide)) (fun _ hk => hk.2) (.slice Ao19 y256.length co19)) (fun _ hk => hk.2) (.slice Ao18 y259.length co18)) (fun _ hk => hk.2) (.slice Ao17 y271.length co17)) (fun _ hk => ⟨hk.1.1.1.1.1.1, hk.1.1.1.1.2⟩), by (with_reducible repeat (first | apply Kd.R_alloc | apply Kd.R_drewN | apply Kd.R_drew)); exact Kd.R_mono (Kd.R_far (p := ⟨gb255, 2, none⟩) (Kd.R_far (p := ⟨gb255, 1, none⟩) (Kd.R_far (p := ⟨gb255, 0, none⟩) (Kd.R_types HO261.out BK255.out (by decide)) (fun _ hk => hk.2) (.slice Ao19 y256.length co19)) (fun _ hk => hk.2) (.slice Ao18 y259.length co18)) (fun _ hk => hk.2) (.slice Ao17 y271.length co17)) (fun _ hk => ⟨hk.1.1.1.1.1.1, hk.1.1.1.1.2⟩), by (with_reducible repeat (first | apply Kd.N_alloc | apply Kd.N_drewN | apply Kd.N_drew)); exact Kd.N_mono (Kd.N_far (p := ⟨gb255, 2, none⟩) (Kd.N_far (p := ⟨gb255, 1, none⟩) (Kd.N_far (p := ⟨gb255, 0, none⟩) (Kd.N_mono HO273.out (fun k_ hk => (⟨hk, hk.2.2.2⟩ : _ ∧ k_ ≠ gb255))) (fun _ hk => hk.2) (.slice Ao19 y256.length co19)) (fun _ hk => hk.2) (.slice Ao18 y259.length co18)) (fun _ hk => hk.2) (.slice Ao17 y271.length co17)) (fun _ hk => ⟨hk.1.1, ⟨hk.1.2.1, hk.1.2.2.1⟩⟩), bl_ HB.out⟩
end Go.Proofs.Yteodlmgmmpkpoaa.PS
end
section
namespace Go.Proofs.Yteodlmgmmpkpoaa.PS
open Go.RowKit Go.Proofs.YteodlmgmmpkpoaaW.PrintWords Go.Proofs.YteodlmgmmpkpoaaW.PrintLast Go.Proofs.YteodlmgmmpkpoaaW.PrintMore
attribute [local go_sem] max2_int min2_int max_two min_two max_three min_three max_four min_four   -- for this text's walks alone
set_option linter.unusedVariables false
set_option linter.unusedSimpArgs false
attribute [local go_sem high] eqA27
def swashplatelaw01_works.f (k : Nat)  : Option (Bool) := (swashplatelaw01_Example.f).bind fun bt274 => ((spans_Bound.f bt274.1 bt274.2.1 bt274.2.2 5 15 0 5).bind fun bt283 => ((swashplatelaw01_Example.f).bind fun bt287 => ((spans_Greatest.f k bt287.1 bt287.2.1 bt287.2.2 0 5 29).bind fun bt296 => (if bt283.2.2 = 0 then (if bt296.2 = 0 then (if (bt283.1 == 10 && (bt283.2.1 == 40)) = true then (some (bt296.1 == 9)) else (some false)) else (some false)) else (some false)))))
theorem swashplatelaw01_works.mono : ∀ k, LeO (swashplatelaw01_works.f k ) (swashplatelaw01_works.f (k + 1) ) := by
 intro  k
 unfold swashplatelaw01_works.f
 repeat' first
   | (with_reducible exact spans_Greatest.mono _ _ _ _ _ _ _)
   | (with_reducible exact LeO.refl _)
   | (with_reducible exact LeO.none _)
   | (with_reducible refine LeO.ite ?_ ?_)
   | (with_reducible refine LeO.bind ?_ (fun _ => ?_))
   | exact spans_Greatest.mono _ _ _ _ _ _ _
   | exact LeO.none _
   | refine LeO.ite ?_ ?_
   | refine LeO.bind ?_ (fun _ => ?_)
set_option maxHeartbeats 8000000 in
set_option maxRecDepth 100000 in
theorem swashplatelaw01_works.calls (k : Nat)  (r : Bool) (w : World) (h : swashplatelaw01_works.f k  = some r) :
  Calls Try.prog 22 #[] w fun e w' => e = .returned (.bool r) ∧ Below w.heap.size w w' := by
 have hu27 := Try.underlying27
 have HB := Aside0.mk (Below.refl w.heap.size w)
 have H : ((swashplatelaw01_Example.f).bind fun bt274 => ((spans_Bound.f bt274.1 bt274.2.1 bt274.2.2 5 15 0 5).bind fun bt283 => ((swashplatelaw01_Example.f).bind fun bt287 => ((spans_Greatest.f k bt287.1 bt287.2.1 bt287.2.2 0 5 29).bind fun bt296 => (if bt283.2.2 = 0 then (if bt296.2 = 0 then (if (bt283.1 == 10 && (bt283.2.1 == 40)) = true then (some (bt296.1 == 9)) else (some false)) else (some false)) else (some false)))))) = some r := h
 clear h
 replace H := Option.bind_eq_some_iff.mp H
 obtain ⟨⟨t274, t277, t280⟩, A10, H⟩ := H
 replace H : ((spans_Bound.f t274 t277 t280 5 15 0 5).bind fun bt283 => ((swashplatelaw01_Example.f).bind fun bt287 => ((spans_Greatest.f k bt287.1 bt287.2.1 bt287.2.2 0 5 29).bind fun bt296 => (if bt283.2.2 = 0 then (if bt296.2 = 0 then (if (bt283.1 == 10 && (bt283.2.1 == 40)) = true then (some (bt296.1 == 9)) else (some false)) else (some false)) else (some false))))) = some r := H
 have A1 := Aside0.mk A10
 clear A10
 replace H := Option.bind_eq_some_iff.mp H
 obtain ⟨⟨t283, t284, t285⟩, A20, H⟩ := H
 replace H : ((swashplatelaw01_Example.f).bind fun bt287 => ((spans_Greatest.f k bt287.1 bt287.2.1 bt287.2.2 0 5 29).bind fun bt296 => (if t285 = 0 then (if bt296.2 = 0 then (if (t283 == 10 && (t284 == 40)) = true then (some (bt296.1 == 9)) else (some false)) else (some false)) else (some false)))) = some r := H
 have A2 := Aside0.mk A20
 clear A20
 replace H := Option.bind_eq_some_iff.mp H
 obtain ⟨⟨t287, t290, t293⟩, A30, H⟩ := H
 replace H : ((spans_Greatest.f k t287 t290 t293 0 5 29).bind fun bt296 => (if t285 = 0 then (if bt296.2 = 0 then (if (t283 == 10 && (t284 == 40)) = true then (some (bt296.1 == 9)) else (some false)) else (some false)) else (some false))) = some r := H
 have A3 := Aside0.mk A30
 clear A30
 replace H := Option.bind_eq_some_iff.mp H
 obtain ⟨⟨t296, t297⟩, A40, H⟩ := H
 replace H : (if t285 = 0 then (if t297 = 0 then (if (t283 == 10 && (t284 == 40)) = true then (some (t296 == 9)) else (some false)) else (some false)) else (some false)) = some r := H
 have A4 := Aside0.mk A40
 clear A40
 by_cases c5 : t285 = 0
 ·
  rw [if_pos c5] at H
  have c5b0 : (t285 == 0) = true := beq_iff_eq.mpr c5
  have c5b1 : (t285 != 0) = false := bne_eq_false_iff_eq.mpr c5
  clear c5
  by_cases c6 : t297 = 0
  ·
   rw [if_pos c6] at H
   have c6b0 : (t297 == 0) = true := beq_iff_eq.mpr c6
   have c6b1 : (t297 != 0) = false := bne_eq_false_iff_eq.mpr c6
   clear c6
   by_cases c7 : (t283 == 10 && (t284 == 40)) = true
   ·
    rw [if_pos c7] at H
    have c7b0 : (t283 == 10 && (t284 == 40)) = true := c7
    (try (have c7b1 : decide (t283 = 10 && (t284 == 40)) = true := by simpa using c7))
    (try (have c7b2 : (t283 == 10 && (t284 == 40)) = true := by simpa using c7))
    clear c7
    obtain rfl := Option.some.inj H
    go_enter Try.func22, Try.ntmps22
    go_wp2_with (first | ((with_reducible refine gate_callee (f := 87) rfl ?_); refine goesL_ (some 6) rfl rfl Try.func87 (by kernel_rfl) rfl #[] rfl (by (try simp only [List.map_toArray, List.map_cons, List.map_nil]); first | done | rfl | (simp only [List.length_drop, List.length_take]; rfl)) ?_; (with_reducible refine (swashplatelaw01_Example.calls  t274 t277 t280 _ A1.out).mono ?_); rintro e w8 ⟨v275, v278, v281, rfl, ho0, ho1, ho2, hb⟩; refine ⟨_, rfl, ?_⟩; have n0_ := Aside0.mk (Kd.R_lower (Kd.R_mono (ok' := fun k_ => some k_ ≠ (v278 : Value).ownBlock) ho0 (fun _ hk_ => hk_.2)) (below_size (bl_ HB.out))); have n1_ := Aside0.mk (Kd.R_lower (Kd.R_mono (ok' := fun k_ => some k_ ≠ (v275 : Value).ownBlock) ho1 (fun _ hk_ => hk_.2)) (below_size (bl_ HB.out))); have n2_ := Aside0.mk (Kd.N_lower (Kd.N_mono (ok' := fun k_ => some k_ ≠ (v275 : Value).ownBlock ∧ some k_ ≠ (v278 : Value).ownBlock) ho2 (fun k_ hk_ => ⟨hk_.2.1, hk_.2.2⟩)) (below_size (bl_ HB.out))); have n3_ := Aside0.mk (below_step (bl_ HB.out) hb); clear HB; have HO276 := n0_; have HO279 := n1_; have HO282 := n2_; have HB := n3_; clear n0_ n1_ n2_ n3_; (try clear hb); (try clear hb2); (try clear hk); (try clear hi); (try clear ho0); (try clear ho1); (try clear ho2); obtain ⟨Ao9, co9, eo9⟩ := Kd.R_slice HO276.out; subst eo9; obtain ⟨Ao10, co10, eo10⟩ := Kd.R_slice HO279.out; subst eo10; obtain ⟨Ao11, co11, eo11⟩ := Kd.N_slice HO282.out; subst eo11) | ((with_reducible refine gate_callee (f := 30) rfl ?_); refine goesL_ (some 9) rfl rfl Try.func30 (by kernel_rfl) rfl #[.agg #[.slice Ao9 t274.length co9, .slice Ao10 t277.length co10, .slice Ao11 t280.length co11], .agg #[.int .i64 5, .int .i64 15], .agg #[.int .i64 0, .int .i64 5]] rfl (by (try simp only [List.map_toArray, List.map_cons, List.map_nil]); first | done | rfl | (simp only [List.length_drop, List.length_take]; rfl)) ?_; (with_reducible refine (spans_Bound.calls _ _ t274 _ _ t277 _ _ t280 5 15 0 5 t283 t284 t285 _ ?side1 ?side2 ?side3 ?side4 ?side5 ?side6 A2.out).mono ?_); (case side1 => exact cr_ (Kd.R_reads' HO276.out).2.2); (case side2 => exact (Kd.R_reads' HO276.out).2.1); (case side3 => exact cr_ (Kd.R_reads' HO279.out).2.2); (case side4 => exact (Kd.R_reads' HO279.out).2.1); (case side5 => exact cr_ (Kd.N_reads' HO282.out).2.2); (case side6 => exact (Kd.N_reads' HO282.out).2.1); rintro e w12 ⟨rfl, hb⟩; refine ⟨_, rfl, ?_⟩; have n0_ := Aside0.mk (Kd.R_below (by (with_reducible repeat (first | apply Kd.R_alloc | apply Kd.R_drewN | apply Kd.R_drew)); exact HO276.out) hb); have n1_ := Aside0.mk (Kd.R_below (by (with_reducible repeat (first | apply Kd.R_alloc | apply Kd.R_drewN | apply Kd.R_drew)); exact HO279.out) hb); have n2_ := Aside0.mk (Kd.N_below (by (with_reducible repeat (first | apply Kd.N_alloc | apply Kd.N_drewN | apply Kd.N_drew)); exact HO282.out) hb); have n3_ := Aside0.mk (below_step (bl_ HB.out) hb); clear HO276 HO279 HO282 HB; have HO276 := n0_; have HO279 := n1_; have HO282 := n2_; have HB := n3_; clear n0_ n1_ n2_ n3_; (try clear hb); (try clear hb2); (try clear hk); (try clear hi)) | ((with_reducible refine gate_dst (N := 1) rfl ?_); refine box_event ?hg (N := 1) ?hd (cs := #[.int .i64 0, .int .i64 0]) (t := 27) ?hr ?_; (case hd => rfl); (case hg => rfl); (case hr => first | (go_simp; done) | (go_simp; rfl)); intro gb286 hg w13 hbox hb; have n0_ := Aside0.mk (Kd.R_below (by (with_reducible repeat (first | apply Kd.R_alloc | apply Kd.R_drewN | apply Kd.R_drew)); exact HO276.out) hb); have n1_ := Aside0.mk (Kd.R_below (by (with_reducible repeat (first | apply Kd.R_alloc | apply Kd.R_drewN | apply Kd.R_drew)); exact HO279.out) hb); have n2_ := Aside0.mk (Kd.N_below (Kd.N_elderB (by (with_reducible repeat (first | apply Kd.N_alloc | apply Kd.N_drewN | apply Kd.N_drew)); exact HO282.out) gb286 (Nat.le_of_eq hg.symm)) hb); have n3_ := Aside0.mk (below_step (bl_ HB.out) hb); have n4_ := Aside0.mk (hbox); have n5_ := Aside0.mk (szl_ hg HB.out); have n6_ := Aside0.mk (szl_ hg HB.out); clear HO276 HO279 HO282 HB; have HO276 := n0_; have HO279 := n1_; have HO282 := n2_; have HB := n3_; have BK286 := n4_; have GW286 := n5_; have GE286 := n6_; clear n0_ n1_ n2_ n3_ n4_ n5_ n6_ hb hbox hg; have hcz14_0 : w13.cell? ⟨gb286, 0, none⟩ = some (.int .i64 0) := (blk_cell BK286.out 0).trans rfl; have hcz14_1 : w13.cell? ⟨gb286, 1, none⟩ = some (.int .i64 0) := (blk_cell BK286.out 1).trans rfl; have hfz14_0 := blk_frozen BK286.out 0; have hfz14_1 := blk_frozen BK286.out 1) | ((with_reducible refine gate_callee (f := 87) rfl ?_); refine goesL_ (some 13) rfl rfl Try.func87 (by kernel_rfl) rfl #[] rfl (by (try simp only [List.map_toArray, List.map_cons, List.map_nil]); first | done | rfl | (simp only [List.length_drop, List.length_take]; rfl)) ?_; (with_reducible refine (swashplatelaw01_Example.calls  t287 t290 t293 _ A3.out).mono ?_); rintro e w15 ⟨v288, v291, v294, rfl, ho0, ho1, ho2, hb⟩; refine ⟨_, rfl, ?_⟩; have n0_ := Aside0.mk (Kd.R_mono (Kd.R_told (Kd.R_told (Kd.R_old (by (with_reducible repeat (first | apply Kd.R_alloc | apply Kd.R_drewN | apply Kd.R_drew)); exact (Kd.R_mono (Kd.R_far (p := ⟨gb286, 1, none⟩) (Kd.R_far (p := ⟨gb286, 0, none⟩) (Kd.R_types HO276.out BK286.out (by decide)) (fun _ hk => hk.2) (.int .i64 t283)) (fun _ hk => hk.2) (.int .i64 t284)) (fun _ h_ => h_.1))) hb) (Kd.R_base ho0)) (Kd.R_base ho1)) (fun _ h_ => h_.1)); have n1_ := Aside0.mk (Kd.R_mono (Kd.R_told (Kd.R_told (Kd.R_old (by (with_reducible repeat (first | apply Kd.R_alloc | apply Kd.R_drewN | apply Kd.R_drew)); exact (Kd.R_mono (Kd.R_far (p := ⟨gb286, 1, none⟩) (Kd.R_far (p := ⟨gb286, 0, none⟩) (Kd.R_types HO279.out BK286.out (by decide)) (fun _ hk => hk.2) (.int .i64 t283)) (fun _ hk => hk.2) (.int .i64 t284)) (fun _ h_ => h_.1))) hb) (Kd.R_base ho0)) (Kd.R_base ho1)) (fun _ h_ => h_.1)); have n2_ := Aside0.mk (Kd.N_mono (Kd.N_told (Kd.N_told (Kd.N_told (Kd.N_old (by (with_reducible repeat (first | apply Kd.N_alloc | apply Kd.N_drewN | apply Kd.N_drew)); exact (Kd.N_mono (Kd.N_far (p := ⟨gb286, 1, none⟩) (Kd.N_far (p := ⟨gb286, 0, none⟩) (Kd.N_mono HO282.out (fun k_ hk => (⟨hk, hk.2⟩ : _ ∧ k_ ≠ gb286))) (fun _ hk => hk.2) (.int .i64 t283)) (fun _ hk => hk.2) (.int .i64 t284)) (fun _ h_ => h_.1))) hb) (Kd.R_base ho0)) (Kd.R_base ho1)) (Kd.N_base ho2)) (fun _ h_ => h_.1)); have n3_ := Aside0.mk (Kd.R_lower (Kd.R_new' (Kd.R_new' (Kd.R_mono (ok' := fun k_ => some k_ ≠ (v291 : Value).ownBlock) ho0 (fun _ hk_ => hk_.2)) (Kd.R_lt (by (with_reducible repeat (first | apply Kd.R_alloc | apply Kd.R_drewN | apply Kd.R_drew)); exact (Kd.R_mono (Kd.R_far (p := ⟨gb286, 1, none⟩) (Kd.R_far (p := ⟨gb286, 0, none⟩) (Kd.R_types HO276.out BK286.out (by decide)) (fun _ hk => hk.2) (.int .i64 t283)) (fun _ hk => hk.2) (.int .i64 t284)) (fun _ h_ => h_.1))))) (Kd.R_lt (by (with_reducible repeat (first | apply Kd.R_alloc | apply Kd.R_drewN | apply Kd.R_drew)); exact (Kd.R_mono (Kd.R_far (p := ⟨gb286, 1, none⟩) (Kd.R_far (p := ⟨gb286, 0, none⟩) (Kd.R_types HO279.out BK286.out (by decide)) (fun _ hk => hk.2) (.int .i64 t283)) (fun _ hk => hk.2) (.int .i64 t284)) (fun _ h_ => h_.1))))) (below_size (bl_ HB.out))); have n4_ := Aside0.mk (Kd.R_lower (Kd.R_new' (Kd.R_new' (Kd.R_mono (ok' := fun k_ => some k_ ≠ (v288 : Value).ownBlock) ho1 (fun _ hk_ => hk_.2)) (Kd.R_lt (by (with_reducible repeat (first | apply Kd.R_alloc | apply Kd.R_drewN | apply Kd.R_drew)); exact (Kd.R_mono (Kd.R_far (p := ⟨gb286, 1, none⟩) (Kd.R_far (p := ⟨gb286, 0, none⟩) (Kd.R_types HO276.out BK286.out (by decide)) (fun _ hk => hk.2) (.int .i64 t283)) (fun _ hk => hk.2) (.int .i64 t284)) (fun _ h_ => h_.1))))) (Kd.R_lt (by (with_reducible repeat (first | apply Kd.R_alloc | apply Kd.R_drewN | apply Kd.R_drew)); exact (Kd.R_mono (Kd.R_far (p := ⟨gb286, 1, none⟩) (Kd.R_far (p := ⟨gb286, 0, none⟩) (Kd.R_types HO279.out BK286.out (by decide)) (fun _ hk => hk.2) (.int .i64 t283)) (fun _ hk => hk.2) (.int .i64 t284)) (fun _ h_ => h_.1))))) (below_size (bl_ HB.out))); have n5_ := Aside0.mk (Kd.N_lower (Kd.N_mono (ok' := fun k_ => some k_ ≠ (v288 : Value).ownBlock ∧ some k_ ≠ (v291 : Value).ownBlock ∧ some k_ ≠ (.slice Ao9 t274.length co9 : Value).ownBlock ∧ some k_ ≠ (.slice Ao10 t277.length co10 : Value).ownBlock ∧ some k_ ≠ (.slice Ao11 t280.length co11 : Value).ownBlock ∧ k_ ≠ gb286) ho2 (fun k_ hk_ => ⟨hk_.2.1, hk_.2.2, (Kd.fresh' (Kd.R_lt (by (with_reducible repeat (first | apply Kd.R_alloc | apply Kd.R_drewN | apply Kd.R_drew)); exact (Kd.R_mono (Kd.R_far (p := ⟨gb286, 1, none⟩) (Kd.R_far (p := ⟨gb286, 0, none⟩) (Kd.R_types HO276.out BK286.out (by decide)) (fun _ hk => hk.2) (.int .i64 t283)) (fun _ hk => hk.2) (.int .i64 t284)) (fun _ h_ => h_.1)))) k_ hk_.1), (Kd.fresh' (Kd.R_lt (by (with_reducible repeat (first | apply Kd.R_alloc | apply Kd.R_drewN | apply Kd.R_drew)); exact (Kd.R_mono (Kd.R_far (p := ⟨gb286, 1, none⟩) (Kd.R_far (p := ⟨gb286, 0, none⟩) (Kd.R_types HO279.out BK286.out (by decide)) (fun _ hk => hk.2) (.int .i64 t283)) (fun _ hk => hk.2) (.int .i64 t284)) (fun _ h_ => h_.1)))) k_ hk_.1), (Kd.fresh' (Kd.N_lt (by (with_reducible repeat (first | apply Kd.N_alloc | apply Kd.N_drewN | apply Kd.N_drew)); exact (Kd.N_mono (Kd.N_far (p := ⟨gb286, 1, none⟩) (Kd.N_far (p := ⟨gb286, 0, none⟩) (Kd.N_mono HO282.out (fun k_ hk => (⟨hk, hk.2⟩ : _ ∧ k_ ≠ gb286))) (fun _ hk => hk.2) (.int .i64 t283)) (fun _ hk => hk.2) (.int .i64 t284)) (fun _ h_ => h_.1)))) k_ hk_.1), (Kd.freshB (g := gb286) (o := .cells #[.int .i64 t283, .int .i64 t284] 27 (0, 0)) (by (with_reducible repeat (first | refine blk_drewN ?_ _ | refine blk_drew ?_ | refine blk_alloc ?_ _)); refine blk_put (cs := #[.int .i64 t283, .int .i64 0]) ?_ 1 _ rfl; (with_reducible repeat (first | refine blk_drewN ?_ _ | refine blk_drew ?_ | refine blk_alloc ?_ _)); refine blk_put (cs := #[.int .i64 0, .int .i64 0]) ?_ 0 _ rfl; (with_reducible repeat (first | refine blk_drewN ?_ _ | refine blk_drew ?_ | refine blk_alloc ?_ _)); exact BK286.out) k_ hk_.1)⟩)) (below_size (bl_ HB.out))); have n6_ := Aside0.mk (blk_below (g := gb286) (o := .cells #[.int .i64 t283, .int .i64 t284] 27 (0, 0)) (by (with_reducible repeat (first | refine blk_drewN ?_ _ | refine blk_drew ?_ | refine blk_alloc ?_ _)); refine blk_put (cs := #[.int .i64 t283, .int .i64 0]) ?_ 1 _ rfl; (with_reducible repeat (first | refine blk_drewN ?_ _ | refine blk_drew ?_ | refine blk_alloc ?_ _)); refine blk_put (cs := #[.int .i64 0, .int .i64 0]) ?_ 0 _ rfl; (with_reducible repeat (first | refine blk_drewN ?_ _ | refine blk_drew ?_ | refine blk_alloc ?_ _)); exact BK286.out) hb); have n7_ := Aside0.mk (below_step (bl_ HB.out) hb); clear HO276 HO279 HO282 BK286 HB; have HO276 := n0_; have HO279 := n1_; have HO282 := n2_; have HO289 := n3_; have HO292 := n4_; have HO295 := n5_; have BK286 := n6_; have HB := n7_; clear n0_ n1_ n2_ n3_ n4_ n5_ n6_ n7_; (try clear hb); (try clear hb2); (try clear hk); (try clear hi); (try clear ho0); (try clear ho1); (try clear ho2); obtain ⟨Ao16, co16, eo16⟩ := Kd.R_slice HO289.out; subst eo16; obtain ⟨Ao17, co17, eo17⟩ := Kd.R_slice HO292.out; subst eo17; obtain ⟨Ao18, co18, eo18⟩ := Kd.N_slice HO295.out; subst eo18) | ((with_reducible refine gate_callee (f := 23) rfl ?_); refine goesL_ (some 15) rfl rfl Try.func23 (by kernel_rfl) rfl #[.agg #[.slice Ao16 t287.length co16, .slice Ao17 t290.length co17, .slice Ao18 t293.length co18], .agg #[.int .i64 0, .int .i64 5], .int .i64 29] rfl (by (try simp only [List.map_toArray, List.map_cons, List.map_nil]); first | done | rfl | (simp only [List.length_drop, List.length_take]; rfl)) ?_; (with_reducible refine (spans_Greatest.calls k _ _ t287 _ _ t290 _ _ t293 0 5 29 t296 t297 _ ?side1 ?side2 ?side3 ?side4 ?side5 ?side6 A4.out).mono ?_); (case side1 => exact cr_ (Kd.R_reads' HO289.out).2.2); (case side2 => exact (Kd.R_reads' HO289.out).2.1); (case side3 => exact cr_ (Kd.R_reads' HO292.out).2.2); (case side4 => exact (Kd.R_reads' HO292.out).2.1); (case side5 => exact cr_ (Kd.N_reads' HO295.out).2.2); (case side6 => exact (Kd.N_reads' HO295.out).2.1); rintro e w19 ⟨rfl, hb⟩; refine ⟨_, rfl, ?_⟩; have n0_ := Aside0.mk (Kd.R_below (by (with_reducible repeat (first | apply Kd.R_alloc | apply Kd.R_drewN | apply Kd.R_drew)); exact HO276.out) hb); have n1_ := Aside0.mk (Kd.R_below (by (with_reducible repeat (first | apply Kd.R_alloc | apply Kd.R_drewN | apply Kd.R_drew)); exact HO279.out) hb); have n2_ := Aside0.mk (Kd.N_below (by (with_reducible repeat (first | apply Kd.N_alloc | apply Kd.N_drewN | apply Kd.N_drew)); exact HO282.out) hb); have n3_ := Aside0.mk (Kd.R_below (by (with_reducible repeat (first | apply Kd.R_alloc | apply Kd.R_drewN | apply Kd.R_drew)); exact HO289.out) hb); have n4_ := Aside0.mk (Kd.R_below (by (with_reducible repeat (first | apply Kd.R_alloc | apply Kd.R_drewN | apply Kd.R_drew)); exact HO292.out) hb); have n5_ := Aside0.mk (Kd.N_below (by (with_reducible repeat (first | apply Kd.N_alloc | apply Kd.N_drewN | apply Kd.N_drew)); exact HO295.out) hb); have n6_ := Aside0.mk (blk_below (bk_ BK286.out) hb); have n7_ := Aside0.mk (below_step (bl_ HB.out) hb); clear HO276 HO279 HO282 HO289 HO292 HO295 BK286 HB; have HO276 := n0_; have HO279 := n1_; have HO282 := n2_; have HO289 := n3_; have HO292 := n4_; have HO295 := n5_; have BK286 := n6_; have HB := n7_; clear n0_ n1_ n2_ n3_ n4_ n5_ n6_ n7_; (try clear hb); (try clear hb2); (try clear hk); (try clear hi); have hcz20_0 : w19.cell? ⟨gb286, 0, none⟩ = some (.int .i64 t283) := (blk_cell BK286.out 0).trans rfl; have hcz20_1 : w19.cell? ⟨gb286, 1, none⟩ = some (.int .i64 t284) := (blk_cell BK286.out 1).trans rfl; have hfz20_0 := blk_frozen BK286.out 0; have hfz20_1 := blk_frozen BK286.out 1))
    go_ret
    exact ⟨by first | rfl | (simp [errW_none, errW_some] <;> rfl) | (simp [*, errW_none, errW_some] <;> rfl), bl_ HB.out⟩
   ·
    rw [if_neg c7] at H
    have c7b0 : (t283 == 10 && (t284 == 40)) = false := by simpa using c7
    (try (have c7b1 : decide (t283 = 10 && (t284 == 40)) = false := by simpa using c7))
    (try (have c7b2 : (t283 == 10 && (t284 == 40)) = false := by simpa using c7))
    (try (have c7b3 : ¬ (t283 = 10 && (t284 == 40)) := by simpa using c7))
    clear c7
    obtain rfl := Option.some.inj H
    go_enter Try.func22, Try.ntmps22
    go_wp2_with (first | ((with_reducible refine gate_callee (f := 87) rfl ?_); refine goesL_ (some 6) rfl rfl Try.func87 (by kernel_rfl) rfl #[] rfl (by (try simp only [List.map_toArray, List.map_cons, List.map_nil]); first | done | rfl | (simp only [List.length_drop, List.length_take]; rfl)) ?_; (with_reducible refine (swashplatelaw01_Example.calls  t274 t277 t280 _ A1.out).mono ?_); rintro e w21 ⟨v275, v278, v281, rfl, ho0, ho1, ho2, hb⟩; refine ⟨_, rfl, ?_⟩; have n0_ := Aside0.mk (Kd.R_lower (Kd.R_mono (ok' := fun k_ => some k_ ≠ (v278 : Value).ownBlock) ho0 (fun _ hk_ => hk_.2)) (below_size (bl_ HB.out))); have n1_ := Aside0.mk (Kd.R_lower (Kd.R_mono (ok' := fun k_ => some k_ ≠ (v275 : Value).ownBlock) ho1 (fun _ hk_ => hk_.2)) (below_size (bl_ HB.out))); have n2_ := Aside0.mk (Kd.N_lower (Kd.N_mono (ok' := fun k_ => some k_ ≠ (v275 : Value).ownBlock ∧ some k_ ≠ (v278 : Value).ownBlock) ho2 (fun k_ hk_ => ⟨hk_.2.1, hk_.2.2⟩)) (below_size (bl_ HB.out))); have n3_ := Aside0.mk (below_step (bl_ HB.out) hb); clear HB; have HO276 := n0_; have HO279 := n1_; have HO282 := n2_; have HB := n3_; clear n0_ n1_ n2_ n3_; (try clear hb); (try clear hb2); (try clear hk); (try clear hi); (try clear ho0); (try clear ho1); (try clear ho2); obtain ⟨Ao22, co22, eo22⟩ := Kd.R_slice HO276.out; subst eo22; obtain ⟨Ao23, co23, eo23⟩ := Kd.R_slice HO279.out; subst eo23; obtain ⟨Ao24, co24, eo24⟩ := Kd.N_slice HO282.out; subst eo24) | ((with_reducible refine gate_callee (f := 30) rfl ?_); refine goesL_ (some 9) rfl rfl Try.func30 (by kernel_rfl) rfl #[.agg #[.slice Ao22 t274.length co22, .slice Ao23 t277.length co23, .slice Ao24 t280.length co24], .agg #[.int .i64 5, .int .i64 15], .agg #[.int .i64 0, .int .i64 5]] rfl (by (try simp only [List.map_toArray, List.map_cons, List.map_nil]); first | done | rfl | (simp only [List.length_drop, List.length_take]; rfl)) ?_; (with_reducible refine (spans_Bound.calls _ _ t274 _ _ t277 _ _ t280 5 15 0 5 t283 t284 t285 _ ?side1 ?side2 ?side3 ?side4 ?side5 ?side6 A2.out).mono ?_); (case side1 => exact cr_ (Kd.R_reads' HO276.out).2.2); (case side2 => exact (Kd.R_reads' HO276.out).2.1); (case side3 => exact cr_ (Kd.R_reads' HO279.out).2.2); (case side4 => exact (Kd.R_reads' HO279.out).2.1); (case side5 => exact cr_ (Kd.N_reads' HO282.out).2.2); (case side6 => exact (Kd.N_reads' HO282.out).2.1); rintro e w25 ⟨rfl, hb⟩; refine ⟨_, rfl, ?_⟩; have n0_ := Aside0.mk (Kd.R_below (by (with_reducible repeat (first | apply Kd.R_alloc | apply Kd.R_drewN | apply Kd.R_drew)); exact HO276.out) hb); have n1_ := Aside0.mk (Kd.R_below (by (with_reducible repeat (first | apply Kd.R_alloc | apply Kd.R_drewN | apply Kd.R_drew)); exact HO279.out) hb); have n2_ := Aside0.mk (Kd.N_below (by (with_reducible repeat (first | apply Kd.N_alloc | apply Kd.N_drewN | apply Kd.N_drew)); exact HO282.out) hb); have n3_ := Aside0.mk (below_step (bl_ HB.out) hb); clear HO276 HO279 HO282 HB; have HO276 := n0_; have HO279 := n1_; have HO282 := n2_; have HB := n3_; clear n0_ n1_ n2_ n3_; (try clear hb); (try clear hb2); (try clear hk); (try clear hi)) | ((with_reducible refine gate_dst (N := 1) rfl ?_); refine box_event ?hg (N := 1) ?hd (cs := #[.int .i64 0, .int .i64 0]) (t := 27) ?hr ?_; (case hd => rfl); (case hg => rfl); (case hr => first | (go_simp; done) | (go_simp; rfl)); intro gb286 hg w26 hbox hb; have n0_ := Aside0.mk (Kd.R_below (by (with_reducible repeat (first | apply Kd.R_alloc | apply Kd.R_drewN | apply Kd.R_drew)); exact HO276.out) hb); have n1_ := Aside0.mk (Kd.R_below (by (with_reducible repeat (first | apply Kd.R_alloc | apply Kd.R_drewN | apply Kd.R_drew)); exact HO279.out) hb); have n2_ := Aside0.mk (Kd.N_below (Kd.N_elderB (by (with_reducible repeat (first | apply Kd.N_alloc | apply Kd.N_drewN | apply Kd.N_drew)); exact HO282.out) gb286 (Nat.le_of_eq hg.symm)) hb); have n3_ := Aside0.mk (below_step (bl_ HB.out) hb); have n4_ := Aside0.mk (hbox); have n5_ := Aside0.mk (szl_ hg HB.out); have n6_ := Aside0.mk (szl_ hg HB.out); clear HO276 HO279 HO282 HB; have HO276 := n0_; have HO279 := n1_; have HO282 := n2_; have HB := n3_; have BK286 := n4_; have GW286 := n5_; have GE286 := n6_; clear n0_ n1_ n2_ n3_ n4_ n5_ n6_ hb hbox hg; have hcz27_0 : w26.cell? ⟨gb286, 0, none⟩ = some (.int .i64 0) := (blk_cell BK286.out 0).trans rfl; have hcz27_1 : w26.cell? ⟨gb286, 1, none⟩ = some (.int .i64 0) := (blk_cell BK286.out 1).trans rfl; have hfz27_0 := blk_frozen BK286.out 0; have hfz27_1 := blk_frozen BK286.out 1) | ((with_reducible refine gate_callee (f := 87) rfl ?_); refine goesL_ (some 13) rfl rfl Try.func87 (by kernel_rfl) rfl #[] rfl (by (try simp only [List.map_toArray, List.map_cons, List.map_nil]); first | done | rfl | (simp only [List.length_drop, List.length_take]; rfl)) ?_; (with_reducible refine (swashplatelaw01_Example.calls  t287 t290 t293 _ A3.out).mono ?_); rintro e w28 ⟨v288, v291, v294, rfl, ho0, ho1, ho2, hb⟩; refine ⟨_, rfl, ?_⟩; have n0_ := Aside0.mk (Kd.R_mono (Kd.R_told (Kd.R_told (Kd.R_old (by (with_reducible repeat (first | apply Kd.R_alloc | apply Kd.R_drewN | apply Kd.R_drew)); exact (Kd.R_mono (Kd.R_far (p := ⟨gb286, 1, none⟩) (Kd.R_far (p := ⟨gb286, 0, none⟩) (Kd.R_types HO276.out BK286.out (by decide)) (fun _ hk => hk.2) (.int .i64 t283)) (fun _ hk => hk.2) (.int .i64 t284)) (fun _ h_ => h_.1))) hb) (Kd.R_base ho0)) (Kd.R_base ho1)) (fun _ h_ => h_.1)); have n1_ := Aside0.mk (Kd.R_mono (Kd.R_told (Kd.R_told (Kd.R_old (by (with_reducible repeat (first | apply Kd.R_alloc | apply Kd.R_drewN | apply Kd.R_drew)); exact (Kd.R_mono (Kd.R_far (p := ⟨gb286, 1, none⟩) (Kd.R_far (p := ⟨gb286, 0, none⟩) (Kd.R_types HO279.out BK286.out (by decide)) (fun _ hk => hk.2) (.int .i64 t283)) (fun _ hk => hk.2) (.int .i64 t284)) (fun _ h_ => h_.1))) hb) (Kd.R_base ho0)) (Kd.R_base ho1)) (fun _ h_ => h_.1)); have n2_ := Aside0.mk (Kd.N_mono (Kd.N_told (Kd.N_told (Kd.N_told (Kd.N_old (by (with_reducible repeat (first | apply Kd.N_alloc | apply Kd.N_drewN | apply Kd.N_drew)); exact (Kd.N_mono (Kd.N_far (p := ⟨gb286, 1, none⟩) (Kd.N_far (p := ⟨gb286, 0, none⟩) (Kd.N_mono HO282.out (fun k_ hk => (⟨hk, hk.2⟩ : _ ∧ k_ ≠ gb286))) (fun _ hk => hk.2) (.int .i64 t283)) (fun _ hk => hk.2) (.int .i64 t284)) (fun _ h_ => h_.1))) hb) (Kd.R_base ho0)) (Kd.R_base ho1)) (Kd.N_base ho2)) (fun _ h_ => h_.1)); have n3_ := Aside0.mk (Kd.R_lower (Kd.R_new' (Kd.R_new' (Kd.R_mono (ok' := fun k_ => some k_ ≠ (v291 : Value).ownBlock) ho0 (fun _ hk_ => hk_.2)) (Kd.R_lt (by (with_reducible repeat (first | apply Kd.R_alloc | apply Kd.R_drewN | apply Kd.R_drew)); exact (Kd.R_mono (Kd.R_far (p := ⟨gb286, 1, none⟩) (Kd.R_far (p := ⟨gb286, 0, none⟩) (Kd.R_types HO276.out BK286.out (by decide)) (fun _ hk => hk.2) (.int .i64 t283)) (fun _ hk => hk.2) (.int .i64 t284)) (fun _ h_ => h_.1))))) (Kd.R_lt (by (with_reducible repeat (first | apply Kd.R_alloc | apply Kd.R_drewN | apply Kd.R_drew)); exact (Kd.R_mono (Kd.R_far (p := ⟨gb286, 1, none⟩) (Kd.R_far (p := ⟨gb286, 0, none⟩) (Kd.R_types HO279.out BK286.out (by decide)) (fun _ hk => hk.2) (.int .i64 t283)) (fun _ hk => hk.2) (.int .i64 t284)) (fun _ h_ => h_.1))))) (below_size (bl_ HB.out))); have n4_ := Aside0.mk (Kd.R_lower (Kd.R_new' (Kd.R_new' (Kd.R_mono (ok' := fun k_ => some k_ ≠ (v288 : Value).ownBlock) ho1 (fun _ hk_ => hk_.2)) (Kd.R_lt (by (with_reducible repeat (first | apply Kd.R_alloc | apply Kd.R_drewN | apply Kd.R_drew)); exact (Kd.R_mono (Kd.R_far (p := ⟨gb286, 1, none⟩) (Kd.R_far (p := ⟨gb286, 0, none⟩) (Kd.R_types HO276.out BK286.out (by decide)) (fun _ hk => hk.2) (.int .i64 t283)) (fun _ hk => hk.2) (.int .i64 t284)) (fun _ h_ => h_.1))))) (Kd.R_lt (by (with_reducible repeat (first | apply Kd.R_alloc | apply Kd.R_drewN | apply Kd.R_drew)); exact (Kd.R_mono (Kd.R_far (p := ⟨gb286, 1, none⟩) (Kd.R_far (p := ⟨gb286, 0, none⟩) (Kd.R_types HO279.out BK286.out (by decide)) (fun _ hk => hk.2) (.int .i64 t283)) (fun _ hk => hk.2) (.int .i64 t284)) (fun _ h_ => h_.1))))) (below_size (bl_ HB.out))); have n5_ := Aside0.mk (Kd.N_lower (Kd.N_mono (ok' := fun k_ => some k_ ≠ (v288 : Value).ownBlock ∧ some k_ ≠ (v291 : Value).ownBlock ∧ some k_ ≠ (.slice Ao22 t274.length co22 : Value).ownBlock ∧ some k_ ≠ (.slice Ao23 t277.length co23 : Value).ownBlock ∧ some k_ ≠ (.slice Ao24 t280.length co24 : Value).ownBlock ∧ k_ ≠ gb286) ho2 (fun k_ hk_ => ⟨hk_.2.1, hk_.2.2, (Kd.fresh' (Kd.R_lt (by (with_reducible repeat (first | apply Kd.R_alloc | apply Kd.R_drewN | apply Kd.R_drew)); exact (Kd.R_mono (Kd.R_far (p := ⟨gb286, 1, none⟩) (Kd.R_far (p := ⟨gb286, 0, none⟩) (Kd.R_types HO276.out BK286.out (by decide)) (fun _ hk => hk.2) (.int .i64 t283)) (fun _ hk => hk.2) (.int .i64 t284)) (fun _ h_ => h_.1)))) k_ hk_.1), (Kd.fresh' (Kd.R_lt (by (with_reducible repeat (first | apply Kd.R_alloc | apply Kd.R_drewN | apply Kd.R_drew)); exact (Kd.R_mono (Kd.R_far (p := ⟨gb286, 1, none⟩) (Kd.R_far (p := ⟨gb286, 0, none⟩) (Kd.R_types HO279.out BK286.out (by decide)) (fun _ hk => hk.2) (.int .i64 t283)) (fun _ hk => hk.2) (.int .i64 t284)) (fun _ h_ => h_.1)))) k_ hk_.1), (Kd.fresh' (Kd.N_lt (by (with_reducible repeat (first | apply Kd.N_alloc | apply Kd.N_drewN | apply Kd.N_drew)); exact (Kd.N_mono (Kd.N_far (p := ⟨gb286, 1, none⟩) (Kd.N_far (p := ⟨gb286, 0, none⟩) (Kd.N_mono HO282.out (fun k_ hk => (⟨hk, hk.2⟩ : _ ∧ k_ ≠ gb286))) (fun _ hk => hk.2) (.int .i64 t283)) (fun _ hk => hk.2) (.int .i64 t284)) (fun _ h_ => h_.1)))) k_ hk_.1), (Kd.freshB (g := gb286) (o := .cells #[.int .i64 t283, .int .i64 t284] 27 (0, 0)) (by (with_reducible repeat (first | refine blk_drewN ?_ _ | refine blk_drew ?_ | refine blk_alloc ?_ _)); refine blk_put (cs := #[.int .i64 t283, .int .i64 0]) ?_ 1 _ rfl; (with_reducible repeat (first | refine blk_drewN ?_ _ | refine blk_drew ?_ | refine blk_alloc ?_ _)); refine blk_put (cs := #[.int .i64 0, .int .i64 0]) ?_ 0 _ rfl; (with_reducible repeat (first | refine blk_drewN ?_ _ | refine blk_drew ?_ | refine blk_alloc ?_ _)); exact BK286.out) k_ hk_.1)⟩)) (below_size (bl_ HB.out))); have n6_ := Aside0.mk (blk_below (g := gb286) (o := .cells #[.int .i64 t283, .int .i64 t284] 27 (0, 0)) (by (with_reducible repeat (first | refine blk_drewN ?_ _ | refine blk_drew ?_ | refine blk_alloc ?_ _)); refine blk_put (cs := #[.int .i64 t283, .int .i64 0]) ?_ 1 _ rfl; (with_reducible repeat (first | refine blk_drewN ?_ _ | refine blk_drew ?_ | refine blk_alloc ?_ _)); refine blk_put (cs := #[.int .i64 0, .int .i64 0]) ?_ 0 _ rfl; (with_reducible repeat (first | refine blk_drewN ?_ _ | refine blk_drew ?_ | refine blk_alloc ?_ _)); exact BK286.out) hb); have n7_ := Aside0.mk (below_step (bl_ HB.out) hb); clear HO276 HO279 HO282 BK286 HB; have HO276 := n0_; have HO279 := n1_; have HO282 := n2_; have HO289 := n3_; have HO292 := n4_; have HO295 := n5_; have BK286 := n6_; have HB := n7_; clear n0_ n1_ n2_ n3_ n4_ n5_ n6_ n7_; (try clear hb); (try clear hb2); (try clear hk); (try clear hi); (try clear ho0); (try clear ho1); (try clear ho2); obtain ⟨Ao29, co29, eo29⟩ := Kd.R_slice HO289.out; subst eo29; obtain ⟨Ao30, co30, eo30⟩ := Kd.R_slice HO292.out; subst eo30; obtain ⟨Ao31, co31, eo31⟩ := Kd.N_slice HO295.out; subst eo31) | ((with_reducible refine gate_callee (f := 23) rfl ?_); refine goesL_ (some 15) rfl rfl Try.func23 (by kernel_rfl) rfl #[.agg #[.slice Ao29 t287.length co29, .slice Ao30 t290.length co30, .slice Ao31 t293.length co31], .agg #[.int .i64 0, .int .i64 5], .int .i64 29] rfl (by (try simp only [List.map_toArray, List.map_cons, List.map_nil]); first | done | rfl | (simp only [List.length_drop, List.length_take]; rfl)) ?_; (with_reducible refine (spans_Greatest.calls k _ _ t287 _ _ t290 _ _ t293 0 5 29 t296 t297 _ ?side1 ?side2 ?side3 ?side4 ?side5 ?side6 A4.out).mono ?_); (case side1 => exact cr_ (Kd.R_reads' HO289.out).2.2); (case side2 => exact (Kd.R_reads' HO289.out).2.1); (case side3 => exact cr_ (Kd.R_reads' HO292.out).2.2); (case side4 => exact (Kd.R_reads' HO292.out).2.1); (case side5 => exact cr_ (Kd.N_reads' HO295.out).2.2); (case side6 => exact (Kd.N_reads' HO295.out).2.1); rintro e w32 ⟨rfl, hb⟩; refine ⟨_, rfl, ?_⟩; have n0_ := Aside0.mk (Kd.R_below (by (with_reducible repeat (first | apply Kd.R_alloc | apply Kd.R_drewN | apply Kd.R_drew)); exact HO276.out) hb); have n1_ := Aside0.mk (Kd.R_below (by (with_reducible repeat (first | apply Kd.R_alloc | apply Kd.R_drewN | apply Kd.R_drew)); exact HO279.out) hb); have n2_ := Aside0.mk (Kd.N_below (by (with_reducible repeat (first | apply Kd.N_alloc | apply Kd.N_drewN | apply Kd.N_drew)); exact HO282.out) hb); have n3_ := Aside0.mk (Kd.R_below (by (with_reducible repeat (first | apply Kd.R_alloc | apply Kd.R_drewN | apply Kd.R_drew)); exact HO289.out) hb); have n4_ := Aside0.mk (Kd.R_below (by (with_reducible repeat (first | apply Kd.R_alloc | apply Kd.R_drewN | apply Kd.R_drew)); exact HO292.out) hb); have n5_ := Aside0.mk (Kd.N_below (by (with_reducible repeat (first | apply Kd.N_alloc | apply Kd.N_drewN | apply Kd.N_drew)); exact HO295.out) hb); have n6_ := Aside0.mk (blk_below (bk_ BK286.out) hb); have n7_ := Aside0.mk (below_step (bl_ HB.out) hb); clear HO276 HO279 HO282 HO289 HO292 HO295 BK286 HB; have HO276 := n0_; have HO279 := n1_; have HO282 := n2_; have HO289 := n3_; have HO292 := n4_; have HO295 := n5_; have BK286 := n6_; have HB := n7_; clear n0_ n1_ n2_ n3_ n4_ n5_ n6_ n7_; (try clear hb); (try clear hb2); (try clear hk); (try clear hi); have hcz33_0 : w32.cell? ⟨gb286, 0, none⟩ = some (.int .i64 t283) := (blk_cell BK286.out 0).trans rfl; have hcz33_1 : w32.cell? ⟨gb286, 1, none⟩ = some (.int .i64 t284) := (blk_cell BK286.out 1).trans rfl; have hfz33_0 := blk_frozen BK286.out 0; have hfz33_1 := blk_frozen BK286.out 1))
    go_ret
    exact ⟨by first | rfl | (simp [errW_none, errW_some] <;> rfl) | (simp [*, errW_none, errW_some] <;> rfl), bl_ HB.out⟩
  ·
   rw [if_neg c6] at H
   have c6b0 : (t297 == 0) = false := beq_eq_false_iff_ne.mpr c6
   have c6b1 : (t297 != 0) = true := bne_iff_ne.mpr c6
   obtain rfl := Option.some.inj H
   go_enter Try.func22, Try.ntmps22
   go_wp2_with (first | ((with_reducible refine gate_callee (f := 87) rfl ?_); refine goesL_ (some 6) rfl rfl Try.func87 (by kernel_rfl) rfl #[] rfl (by (try simp only [List.map_toArray, List.map_cons, List.map_nil]); first | done | rfl | (simp only [List.length_drop, List.length_take]; rfl)) ?_; (with_reducible refine (swashplatelaw01_Example.calls  t274 t277 t280 _ A1.out).mono ?_); rintro e w34 ⟨v275, v278, v281, rfl, ho0, ho1, ho2, hb⟩; refine ⟨_, rfl, ?_⟩; have n0_ := Aside0.mk (Kd.R_lower (Kd.R_mono (ok' := fun k_ => some k_ ≠ (v278 : Value).ownBlock) ho0 (fun _ hk_ => hk_.2)) (below_size (bl_ HB.out))); have n1_ := Aside0.mk (Kd.R_lower (Kd.R_mono (ok' := fun k_ => some k_ ≠ (v275 : Value).ownBlock) ho1 (fun _ hk_ => hk_.2)) (below_size (bl_ HB.out))); have n2_ := Aside0.mk (Kd.N_lower (Kd.N_mono (ok' := fun k_ => some k_ ≠ (v275 : Value).ownBlock ∧ some k_ ≠ (v278 : Value).ownBlock) ho2 (fun k_ hk_ => ⟨hk_.2.1, hk_.2.2⟩)) (below_size (bl_ HB.out))); have n3_ := Aside0.mk (below_step (bl_ HB.out) hb); clear HB; have HO276 := n0_; have HO279 := n1_; have HO282 := n2_; have HB := n3_; clear n0_ n1_ n2_ n3_; (try clear hb); (try clear hb2); (try clear hk); (try clear hi); (try clear ho0); (try clear ho1); (try clear ho2); obtain ⟨Ao35, co35, eo35⟩ := Kd.R_slice HO276.out; subst eo35; obtain ⟨Ao36, co36, eo36⟩ := Kd.R_slice HO279.out; subst eo36; obtain ⟨Ao37, co37, eo37⟩ := Kd.N_slice HO282.out; subst eo37) | ((with_reducible refine gate_callee (f := 30) rfl ?_); refine goesL_ (some 9) rfl rfl Try.func30 (by kernel_rfl) rfl #[.agg #[.slice Ao35 t274.length co35, .slice Ao36 t277.length co36, .slice Ao37 t280.length co37], .agg #[.int .i64 5, .int .i64 15], .agg #[.int .i64 0, .int .i64 5]] rfl (by (try simp only [List.map_toArray, List.map_cons, List.map_nil]); first | done | rfl | (simp only [List.length_drop, List.length_take]; rfl)) ?_; (with_reducible refine (spans_Bound.calls _ _ t274 _ _ t277 _ _ t280 5 15 0 5 t283 t284 t285 _ ?side1 ?side2 ?side3 ?side4 ?side5 ?side6 A2.out).mono ?_); (case side1 => exact cr_ (Kd.R_reads' HO276.out).2.2); (case side2 => exact (Kd.R_reads' HO276.out).2.1); (case side3 => exact cr_ (Kd.R_reads' HO279.out).2.2); (case side4 => exact (Kd.R_reads' HO279.out).2.1); (case side5 => exact cr_ (Kd.N_reads' HO282.out).2.2); (case side6 => exact (Kd.N_reads' HO282.out).2.1); rintro e w38 ⟨rfl, hb⟩; refine ⟨_, rfl, ?_⟩; have n0_ := Aside0.mk (Kd.R_below (by (with_reducible repeat (first | apply Kd.R_alloc | apply Kd.R_drewN | apply Kd.R_drew)); exact HO276.out) hb); have n1_ := Aside0.mk (Kd.R_below (by (with_reducible repeat (first | apply Kd.R_alloc | apply Kd.R_drewN | apply Kd.R_drew)); exact HO279.out) hb); have n2_ := Aside0.mk (Kd.N_below (by (with_reducible repeat (first | apply Kd.N_alloc | apply Kd.N_drewN | apply Kd.N_drew)); exact HO282.out) hb); have n3_ := Aside0.mk (below_step (bl_ HB.out) hb); clear HO276 HO279 HO282 HB; have HO276 := n0_; have HO279 := n1_; have HO282 := n2_; have HB := n3_; clear n0_ n1_ n2_ n3_; (try clear hb); (try clear hb2); (try clear hk); (try clear hi)) | ((with_reducible refine gate_dst (N := 1) rfl ?_); refine box_event ?hg (N := 1) ?hd (cs := #[.int .i64 0, .int .i64 0]) (t := 27) ?hr ?_; (case hd => rfl); (case hg => rfl); (case hr => first | (go_simp; done) | (go_simp; rfl)); intro gb286 hg w39 hbox hb; have n0_ := Aside0.mk (Kd.R_below (by (with_reducible repeat (first | apply Kd.R_alloc | apply Kd.R_drewN | apply Kd.R_drew)); exact HO276.out) hb); have n1_ := Aside0.mk (Kd.R_below (by (with_reducible repeat (first | apply Kd.R_alloc | apply Kd.R_drewN | apply Kd.R_drew)); exact HO279.out) hb); have n2_ := Aside0.mk (Kd.N_below (Kd.N_elderB (by (with_reducible repeat (first | apply Kd.N_alloc | apply Kd.N_drewN | apply Kd.N_drew)); exact HO282.out) gb286 (Nat.le_of_eq hg.symm)) hb); have n3_ := Aside0.mk (below_step (bl_ HB.out) hb); have n4_ := Aside0.mk (hbox); have n5_ := Aside0.mk (szl_ hg HB.out); have n6_ := Aside0.mk (szl_ hg HB.out); clear HO276 HO279 HO282 HB; have HO276 := n0_; have HO279 := n1_; have HO282 := n2_; have HB := n3_; have BK286 := n4_; have GW286 := n5_; have GE286 := n6_; clear n0_ n1_ n2_ n3_ n4_ n5_ n6_ hb hbox hg; have hcz40_0 : w39.cell? ⟨gb286, 0, none⟩ = some (.int .i64 0) := (blk_cell BK286.out 0).trans rfl; have hcz40_1 : w39.cell? ⟨gb286, 1, none⟩ = some (.int .i64 0) := (blk_cell BK286.out 1).trans rfl; have hfz40_0 := blk_frozen BK286.out 0; have hfz40_1 := blk_frozen BK286.out 1) | ((with_reducible refine gate_callee (f := 87) rfl ?_); refine goesL_ (some 13) rfl rfl Try.func87 (by kernel_rfl) rfl #[] rfl (by (try simp only [List.map_toArray, List.map_cons, List.map_nil]); first | done | rfl | (simp only [List.length_drop, List.length_take]; rfl)) ?_; (with_reducible refine (swashplatelaw01_Example.calls  t287 t290 t293 _ A3.out).mono ?_); rintro e w41 ⟨v288, v291, v294, rfl, ho0, ho1, ho2, hb⟩; refine ⟨_, rfl, ?_⟩; have n0_ := Aside0.mk (Kd.R_mono (Kd.R_told (Kd.R_told (Kd.R_old (by (with_reducible repeat (first | apply Kd.R_alloc | apply Kd.R_drewN | apply Kd.R_drew)); exact (Kd.R_mono (Kd.R_far (p := ⟨gb286, 1, none⟩) (Kd.R_far (p := ⟨gb286, 0, none⟩) (Kd.R_types HO276.out BK286.out (by decide)) (fun _ hk => hk.2) (.int .i64 t283)) (fun _ hk => hk.2) (.int .i64 t284)) (fun _ h_ => h_.1))) hb) (Kd.R_base ho0)) (Kd.R_base ho1)) (fun _ h_ => h_.1)); have n1_ := Aside0.mk (Kd.R_mono (Kd.R_told (Kd.R_told (Kd.R_old (by (with_reducible repeat (first | apply Kd.R_alloc | apply Kd.R_drewN | apply Kd.R_drew)); exact (Kd.R_mono (Kd.R_far (p := ⟨gb286, 1, none⟩) (Kd.R_far (p := ⟨gb286, 0, none⟩) (Kd.R_types HO279.out BK286.out (by decide)) (fun _ hk => hk.2) (.int .i64 t283)) (fun _ hk => hk.2) (.int .i64 t284)) (fun _ h_ => h_.1))) hb) (Kd.R_base ho0)) (Kd.R_base ho1)) (fun _ h_ => h_.1)); have n2_ := Aside0.mk (Kd.N_mono (Kd.N_told (Kd.N_told (Kd.N_told (Kd.N_old (by (with_reducible repeat (first | apply Kd.N_alloc | apply Kd.N_drewN | apply Kd.N_drew)); exact (Kd.N_mono (Kd.N_far (p := ⟨gb286, 1, none⟩) (Kd.N_far (p := ⟨gb286, 0, none⟩) (Kd.N_mono HO282.out (fun k_ hk => (⟨hk, hk.2⟩ : _ ∧ k_ ≠ gb286))) (fun _ hk => hk.2) (.int .i64 t283)) (fun _ hk => hk.2) (.int .i64 t284)) (fun _ h_ => h_.1))) hb) (Kd.R_base ho0)) (Kd.R_base ho1)) (Kd.N_base ho2)) (fun _ h_ => h_.1)); have n3_ := Aside0.mk (Kd.R_lower (Kd.R_new' (Kd.R_new' (Kd.R_mono (ok' := fun k_ => some k_ ≠ (v291 : Value).ownBlock) ho0 (fun _ hk_ => hk_.2)) (Kd.R_lt (by (with_reducible repeat (first | apply Kd.R_alloc | apply Kd.R_drewN | apply Kd.R_drew)); exact (Kd.R_mono (Kd.R_far (p := ⟨gb286, 1, none⟩) (Kd.R_far (p := ⟨gb286, 0, none⟩) (Kd.R_types HO276.out BK286.out (by decide)) (fun _ hk => hk.2) (.int .i64 t283)) (fun _ hk => hk.2) (.int .i64 t284)) (fun _ h_ => h_.1))))) (Kd.R_lt (by (with_reducible repeat (first | apply Kd.R_alloc | apply Kd.R_drewN | apply Kd.R_drew)); exact (Kd.R_mono (Kd.R_far (p := ⟨gb286, 1, none⟩) (Kd.R_far (p := ⟨gb286, 0, none⟩) (Kd.R_types HO279.out BK286.out (by decide)) (fun _ hk => hk.2) (.int .i64 t283)) (fun _ hk => hk.2) (.int .i64 t284)) (fun _ h_ => h_.1))))) (below_size (bl_ HB.out))); have n4_ := Aside0.mk (Kd.R_lower (Kd.R_new' (Kd.R_new' (Kd.R_mono (ok' := fun k_ => some k_ ≠ (v288 : Value).ownBlock) ho1 (fun _ hk_ => hk_.2)) (Kd.R_lt (by (with_reducible repeat (first | apply Kd.R_alloc | apply Kd.R_drewN | apply Kd.R_drew)); exact (Kd.R_mono (Kd.R_far (p := ⟨gb286, 1, none⟩) (Kd.R_far (p := ⟨gb286, 0, none⟩) (Kd.R_types HO276.out BK286.out (by decide)) (fun _ hk => hk.2) (.int .i64 t283)) (fun _ hk => hk.2) (.int .i64 t284)) (fun _ h_ => h_.1))))) (Kd.R_lt (by (with_reducible repeat (first | apply Kd.R_alloc | apply Kd.R_drewN | apply Kd.R_drew)); exact (Kd.R_mono (Kd.R_far (p := ⟨gb286, 1, none⟩) (Kd.R_far (p := ⟨gb286, 0, none⟩) (Kd.R_types HO279.out BK286.out (by decide)) (fun _ hk => hk.2) (.int .i64 t283)) (fun _ hk => hk.2) (.int .i64 t284)) (fun _ h_ => h_.1))))) (below_size (bl_ HB.out))); have n5_ := Aside0.mk (Kd.N_lower (Kd.N_mono (ok' := fun k_ => some k_ ≠ (v288 : Value).ownBlock ∧ some k_ ≠ (v291 : Value).ownBlock ∧ some k_ ≠ (.slice Ao35 t274.length co35 : Value).ownBlock ∧ some k_ ≠ (.slice Ao36 t277.length co36 : Value).ownBlock ∧ some k_ ≠ (.slice Ao37 t280.length co37 : Value).ownBlock ∧ k_ ≠ gb286) ho2 (fun k_ hk_ => ⟨hk_.2.1, hk_.2.2, (Kd.fresh' (Kd.R_lt (by (with_reducible repeat (first | apply Kd.R_alloc | apply Kd.R_drewN | apply Kd.R_drew)); exact (Kd.R_mono (Kd.R_far (p := ⟨gb286, 1, none⟩) (Kd.R_far (p := ⟨gb286, 0, none⟩) (Kd.R_types HO276.out BK286.out (by decide)) (fun _ hk => hk.2) (.int .i64 t283)) (fun _ hk => hk.2) (.int .i64 t284)) (fun _ h_ => h_.1)))) k_ hk_.1), (Kd.fresh' (Kd.R_lt (by (with_reducible repeat (first | apply Kd.R_alloc | apply Kd.R_drewN | apply Kd.R_drew)); exact (Kd.R_mono (Kd.R_far (p := ⟨gb286, 1, none⟩) (Kd.R_far (p := ⟨gb286, 0, none⟩) (Kd.R_types HO279.out BK286.out (by decide)) (fun _ hk => hk.2) (.int .i64 t283)) (fun _ hk => hk.2) (.int .i64 t284)) (fun _ h_ => h_.1)))) k_ hk_.1), (Kd.fresh' (Kd.N_lt (by (with_reducible repeat (first | apply Kd.N_alloc | apply Kd.N_drewN | apply Kd.N_drew)); exact (Kd.N_mono (Kd.N_far (p := ⟨gb286, 1, none⟩) (Kd.N_far (p := ⟨gb286, 0, none⟩) (Kd.N_mono HO282.out (fun k_ hk => (⟨hk, hk.2⟩ : _ ∧ k_ ≠ gb286))) (fun _ hk => hk.2) (.int .i64 t283)) (fun _ hk => hk.2) (.int .i64 t284)) (fun _ h_ => h_.1)))) k_ hk_.1), (Kd.freshB (g := gb286) (o := .cells #[.int .i64 t283, .int .i64 t284] 27 (0, 0)) (by (with_reducible repeat (first | refine blk_drewN ?_ _ | refine blk_drew ?_ | refine blk_alloc ?_ _)); refine blk_put (cs := #[.int .i64 t283, .int .i64 0]) ?_ 1 _ rfl; (with_reducible repeat (first | refine blk_drewN ?_ _ | refine blk_drew ?_ | refine blk_alloc ?_ _)); refine blk_put (cs := #[.int .i64 0, .int .i64 0]) ?_ 0 _ rfl; (with_reducible repeat (first | refine blk_drewN ?_ _ | refine blk_drew ?_ | refine blk_alloc ?_ _)); exact BK286.out) k_ hk_.1)⟩)) (below_size (bl_ HB.out))); have n6_ := Aside0.mk (blk_below (g := gb286) (o := .cells #[.int .i64 t283, .int .i64 t284] 27 (0, 0)) (by (with_reducible repeat (first | refine blk_drewN ?_ _ | refine blk_drew ?_ | refine blk_alloc ?_ _)); refine blk_put (cs := #[.int .i64 t283, .int .i64 0]) ?_ 1 _ rfl; (with_reducible repeat (first | refine blk_drewN ?_ _ | refine blk_drew ?_ | refine blk_alloc ?_ _)); refine blk_put (cs := #[.int .i64 0, .int .i64 0]) ?_ 0 _ rfl; (with_reducible repeat (first | refine blk_drewN ?_ _ | refine blk_drew ?_ | refine blk_alloc ?_ _)); exact BK286.out) hb); have n7_ := Aside0.mk (below_step (bl_ HB.out) hb); clear HO276 HO279 HO282 BK286 HB; have HO276 := n0_; have HO279 := n1_; have HO282 := n2_; have HO289 := n3_; have HO292 := n4_; have HO295 := n5_; have BK286 := n6_; have HB := n7_; clear n0_ n1_ n2_ n3_ n4_ n5_ n6_ n7_; (try clear hb); (try clear hb2); (try clear hk); (try clear hi); (try clear ho0); (try clear ho1); (try clear ho2); obtain ⟨Ao42, co42, eo42⟩ := Kd.R_slice HO289.out; subst eo42; obtain ⟨Ao43, co43, eo43⟩ := Kd.R_slice HO292.out; subst eo43; obtain ⟨Ao44, co44, eo44⟩ := Kd.N_slice HO295.out; subst eo44) | ((with_reducible refine gate_callee (f := 23) rfl ?_); refine goesL_ (some 15) rfl rfl Try.func23 (by kernel_rfl) rfl #[.agg #[.slice Ao42 t287.length co42, .slice Ao43 t290.length co43, .slice Ao44 t293.length co44], .agg #[.int .i64 0, .int .i64 5], .int .i64 29] rfl (by (try simp only [List.map_toArray, List.map_cons, List.map_nil]); first | done | rfl | (simp only [List.length_drop, List.length_take]; rfl)) ?_; (with_reducible refine (spans_Greatest.calls k _ _ t287 _ _ t290 _ _ t293 0 5 29 t296 t297 _ ?side1 ?side2 ?side3 ?side4 ?side5 ?side6 A4.out).mono ?_); (case side1 => exact cr_ (Kd.R_reads' HO289.out).2.2); (case side2 => exact (Kd.R_reads' HO289.out).2.1); (case side3 => exact cr_ (Kd.R_reads' HO292.out).2.2); (case side4 => exact (Kd.R_reads' HO292.out).2.1); (case side5 => exact cr_ (Kd.N_reads' HO295.out).2.2); (case side6 => exact (Kd.N_reads' HO295.out).2.1); rintro e w45 ⟨rfl, hb⟩; refine ⟨_, rfl, ?_⟩; have n0_ := Aside0.mk (Kd.R_below (by (with_reducible repeat (first | apply Kd.R_alloc | apply Kd.R_drewN | apply Kd.R_drew)); exact HO276.out) hb); have n1_ := Aside0.mk (Kd.R_below (by (with_reducible repeat (first | apply Kd.R_alloc | apply Kd.R_drewN | apply Kd.R_drew)); exact HO279.out) hb); have n2_ := Aside0.mk (Kd.N_below (by (with_reducible repeat (first | apply Kd.N_alloc | apply Kd.N_drewN | apply Kd.N_drew)); exact HO282.out) hb); have n3_ := Aside0.mk (Kd.R_below (by (with_reducible repeat (first | apply Kd.R_alloc | apply Kd.R_drewN | apply Kd.R_drew)); exact HO289.out) hb); have n4_ := Aside0.mk (Kd.R_below (by (with_reducible repeat (first | apply Kd.R_alloc | apply Kd.R_drewN | apply Kd.R_drew)); exact HO292.out) hb); have n5_ := Aside0.mk (Kd.N_below (by (with_reducible repeat (first | apply Kd.N_alloc | apply Kd.N_drewN | apply Kd.N_drew)); exact HO295.out) hb); have n6_ := Aside0.mk (blk_below (bk_ BK286.out) hb); have n7_ := Aside0.mk (below_step (bl_ HB.out) hb); clear HO276 HO279 HO282 HO289 HO292 HO295 BK286 HB; have HO276 := n0_; have HO279 := n1_; have HO282 := n2_; have HO289 := n3_; have HO292 := n4_; have HO295 := n5_; have BK286 := n6_; have HB := n7_; clear n0_ n1_ n2_ n3_ n4_ n5_ n6_ n7_; (try clear hb); (try clear hb2); (try clear hk); (try clear hi)))
   go_ret
   exact ⟨by first | rfl | (simp [errW_none, errW_some] <;> rfl) | (simp [*, errW_none, errW_some] <;> rfl), bl_ HB.out⟩
 ·
  rw [if_neg c5] at H
  have c5b0 : (t285 == 0) = false := beq_eq_false_iff_ne.mpr c5
  have c5b1 : (t285 != 0) = true := bne_iff_ne.mpr c5
  obtain rfl := Option.some.inj H
  go_enter Try.func22, Try.ntmps22
  go_wp2_with (first | ((with_reducible refine gate_callee (f := 87) rfl ?_); refine goesL_ (some 6) rfl rfl Try.func87 (by kernel_rfl) rfl #[] rfl (by (try simp only [List.map_toArray, List.map_cons, List.map_nil]); first | done | rfl | (simp only [List.length_drop, List.length_take]; rfl)) ?_; (with_reducible refine (swashplatelaw01_Example.calls  t274 t277 t280 _ A1.out).mono ?_); rintro e w46 ⟨v275, v278, v281, rfl, ho0, ho1, ho2, hb⟩; refine ⟨_, rfl, ?_⟩; have n0_ := Aside0.mk (Kd.R_lower (Kd.R_mono (ok' := fun k_ => some k_ ≠ (v278 : Value).ownBlock) ho0 (fun _ hk_ => hk_.2)) (below_size (bl_ HB.out))); have n1_ := Aside0.mk (Kd.R_lower (Kd.R_mono (ok' := fun k_ => some k_ ≠ (v275 : Value).ownBlock) ho1 (fun _ hk_ => hk_.2)) (below_size (bl_ HB.out))); have n2_ := Aside0.mk (Kd.N_lower (Kd.N_mono (ok' := fun k_ => some k_ ≠ (v275 : Value).ownBlock ∧ some k_ ≠ (v278 : Value).ownBlock) ho2 (fun k_ hk_ => ⟨hk_.2.1, hk_.2.2⟩)) (below_size (bl_ HB.out))); have n3_ := Aside0.mk (below_step (bl_ HB.out) hb); clear HB; have HO276 := n0_; have HO279 := n1_; have HO282 := n2_; have HB := n3_; clear n0_ n1_ n2_ n3_; (try clear hb); (try clear hb2); (try clear hk); (try clear hi); (try clear ho0); (try clear ho1); (try clear ho2); obtain ⟨Ao47, co47, eo47⟩ := Kd.R_slice HO276.out; subst eo47; obtain ⟨Ao48, co48, eo48⟩ := Kd.R_slice HO279.out; subst eo48; obtain ⟨Ao49, co49, eo49⟩ := Kd.N_slice HO282.out; subst eo49) | ((with_reducible refine gate_callee (f := 30) rfl ?_); refine goesL_ (some 9) rfl rfl Try.func30 (by kernel_rfl) rfl #[.agg #[.slice Ao47 t274.length co47, .slice Ao48 t277.length co48, .slice Ao49 t280.length co49], .agg #[.int .i64 5, .int .i64 15], .agg #[.int .i64 0, .int .i64 5]] rfl (by (try simp only [List.map_toArray, List.map_cons, List.map_nil]); first | done | rfl | (simp only [List.length_drop, List.length_take]; rfl)) ?_; (with_reducible refine (spans_Bound.calls _ _ t274 _ _ t277 _ _ t280 5 15 0 5 t283 t284 t285 _ ?side1 ?side2 ?side3 ?side4 ?side5 ?side6 A2.out).mono ?_); (case side1 => exact cr_ (Kd.R_reads' HO276.out).2.2); (case side2 => exact (Kd.R_reads' HO276.out).2.1); (case side3 => exact cr_ (Kd.R_reads' HO279.out).2.2); (case side4 => exact (Kd.R_reads' HO279.out).2.1); (case side5 => exact cr_ (Kd.N_reads' HO282.out).2.2); (case side6 => exact (Kd.N_reads' HO282.out).2.1); rintro e w50 ⟨rfl, hb⟩; refine ⟨_, rfl, ?_⟩; have n0_ := Aside0.mk (Kd.R_below (by (with_reducible repeat (first | apply Kd.R_alloc | apply Kd.R_drewN | apply Kd.R_drew)); exact HO276.out) hb); have n1_ := Aside0.mk (Kd.R_below (by (with_reducible repeat (first | apply Kd.R_alloc | apply Kd.R_drewN | apply Kd.R_drew)); exact HO279.out) hb); have n2_ := Aside0.mk (Kd.N_below (by (with_reducible repeat (first | apply Kd.N_alloc | apply Kd.N_drewN | apply Kd.N_drew)); exact HO282.out) hb); have n3_ := Aside0.mk (below_step (bl_ HB.out) hb); clear HO276 HO279 HO282 HB; have HO276 := n0_; have HO279 := n1_; have HO282 := n2_; have HB := n3_; clear n0_ n1_ n2_ n3_; (try clear hb); (try clear hb2); (try clear hk); (try clear hi)) | ((with_reducible refine gate_dst (N := 1) rfl ?_); refine box_event ?hg (N := 1) ?hd (cs := #[.int .i64 0, .int .i64 0]) (t := 27) ?hr ?_; (case hd => rfl); (case hg => rfl); (case hr => first | (go_simp; done) | (go_simp; rfl)); intro gb286 hg w51 hbox hb; have n0_ := Aside0.mk (Kd.R_below (by (with_reducible repeat (first | apply Kd.R_alloc | apply Kd.R_drewN | apply Kd.R_drew)); exact HO276.out) hb); have n1_ := Aside0.mk (Kd.R_below (by (with_reducible repeat (first | apply Kd.R_alloc | apply Kd.R_drewN | apply Kd.R_drew)); exact HO279.out) hb); have n2_ := Aside0.mk (Kd.N_below (Kd.N_elderB (by (with_reducible repeat (first | apply Kd.N_alloc | apply Kd.N_drewN | apply Kd.N_drew)); exact HO282.out) gb286 (Nat.le_of_eq hg.symm)) hb); have n3_ := Aside0.mk (below_step (bl_ HB.out) hb); have n4_ := Aside0.mk (hbox); have n5_ := Aside0.mk (szl_ hg HB.out); have n6_ := Aside0.mk (szl_ hg HB.out); clear HO276 HO279 HO282 HB; have HO276 := n0_; have HO279 := n1_; have HO282 := n2_; have HB := n3_; have BK286 := n4_; have GW286 := n5_; have GE286 := n6_; clear n0_ n1_ n2_ n3_ n4_ n5_ n6_ hb hbox hg; have hcz52_0 : w51.cell? ⟨gb286, 0, none⟩ = some (.int .i64 0) := (blk_cell BK286.out 0).trans rfl; have hcz52_1 : w51.cell? ⟨gb286, 1, none⟩ = some (.int .i64 0) := (blk_cell BK286.out 1).trans rfl; have hfz52_0 := blk_frozen BK286.out 0; have hfz52_1 := blk_frozen BK286.out 1) | ((with_reducible refine gate_callee (f := 87) rfl ?_); refine goesL_ (some 13) rfl rfl Try.func87 (by kernel_rfl) rfl #[] rfl (by (try simp only [List.map_toArray, List.map_cons, List.map_nil]); first | done | rfl | (simp only [List.length_drop, List.length_take]; rfl)) ?_; (with_reducible refine (swashplatelaw01_Example.calls  t287 t290 t293 _ A3.out).mono ?_); rintro e w53 ⟨v288, v291, v294, rfl, ho0, ho1, ho2, hb⟩; refine ⟨_, rfl, ?_⟩; have n0_ := Aside0.mk (Kd.R_mono (Kd.R_told (Kd.R_told (Kd.R_old (by (with_reducible repeat (first | apply Kd.R_alloc | apply Kd.R_drewN | apply Kd.R_drew)); exact (Kd.R_mono (Kd.R_far (p := ⟨gb286, 1, none⟩) (Kd.R_far (p := ⟨gb286, 0, none⟩) (Kd.R_types HO276.out BK286.out (by decide)) (fun _ hk => hk.2) (.int .i64 t283)) (fun _ hk => hk.2) (.int .i64 t284)) (fun _ h_ => h_.1))) hb) (Kd.R_base ho0)) (Kd.R_base ho1)) (fun _ h_ => h_.1)); have n1_ := Aside0.mk (Kd.R_mono (Kd.R_told (Kd.R_told (Kd.R_old (by (with_reducible repeat (first | apply Kd.R_alloc | apply Kd.R_drewN | apply Kd.R_drew)); exact (Kd.R_mono (Kd.R_far (p := ⟨gb286, 1, none⟩) (Kd.R_far (p := ⟨gb286, 0, none⟩) (Kd.R_types HO279.out BK286.out (by decide)) (fun _ hk => hk.2) (.int .i64 t283)) (fun _ hk => hk.2) (.int .i64 t284)) (fun _ h_ => h_.1))) hb) (Kd.R_base ho0)) (Kd.R_base ho1)) (fun _ h_ => h_.1)); have n2_ := Aside0.mk (Kd.N_mono (Kd.N_told (Kd.N_told (Kd.N_told (Kd.N_old (by (with_reducible repeat (first | apply Kd.N_alloc | apply Kd.N_drewN | apply Kd.N_drew)); exact (Kd.N_mono (Kd.N_far (p := ⟨gb286, 1, none⟩) (Kd.N_far (p := ⟨gb286, 0, none⟩) (Kd.N_mono HO282.out (fun k_ hk => (⟨hk, hk.2⟩ : _ ∧ k_ ≠ gb286))) (fun _ hk => hk.2) (.int .i64 t283)) (fun _ hk => hk.2) (.int .i64 t284)) (fun _ h_ => h_.1))) hb) (Kd.R_base ho0)) (Kd.R_base ho1)) (Kd.N_base ho2)) (fun _ h_ => h_.1)); have n3_ := Aside0.mk (Kd.R_lower (Kd.R_new' (Kd.R_new' (Kd.R_mono (ok' := fun k_ => some k_ ≠ (v291 : Value).ownBlock) ho0 (fun _ hk_ => hk_.2)) (Kd.R_lt (by (with_reducible repeat (first | apply Kd.R_alloc | apply Kd.R_drewN | apply Kd.R_drew)); exact (Kd.R_mono (Kd.R_far (p := ⟨gb286, 1, none⟩) (Kd.R_far (p := ⟨gb286, 0, none⟩) (Kd.R_types HO276.out BK286.out (by decide)) (fun _ hk => hk.2) (.int .i64 t283)) (fun _ hk => hk.2) (.int .i64 t284)) (fun _ h_ => h_.1))))) (Kd.R_lt (by (with_reducible repeat (first | apply Kd.R_alloc | apply Kd.R_drewN | apply Kd.R_drew)); exact (Kd.R_mono (Kd.R_far (p := ⟨gb286, 1, none⟩) (Kd.R_far (p := ⟨gb286, 0, none⟩) (Kd.R_types HO279.out BK286.out (by decide)) (fun _ hk => hk.2) (.int .i64 t283)) (fun _ hk => hk.2) (.int .i64 t284)) (fun _ h_ => h_.1))))) (below_size (bl_ HB.out))); have n4_ := Aside0.mk (Kd.R_lower (Kd.R_new' (Kd.R_new' (Kd.R_mono (ok' := fun k_ => some k_ ≠ (v288 : Value).ownBlock) ho1 (fun _ hk_ => hk_.2)) (Kd.R_lt (by (with_reducible repeat (first | apply Kd.R_alloc | apply Kd.R_drewN | apply Kd.R_drew)); exact (Kd.R_mono (Kd.R_far (p := ⟨gb286, 1, none⟩) (Kd.R_far (p := ⟨gb286, 0, none⟩) (Kd.R_types HO276.out BK286.out (by decide)) (fun _ hk => hk.2) (.int .i64 t283)) (fun _ hk => hk.2) (.int .i64 t284)) (fun _ h_ => h_.1))))) (Kd.R_lt (by (with_reducible repeat (first | apply Kd.R_alloc | apply Kd.R_drewN | apply Kd.R_drew)); exact (Kd.R_mono (Kd.R_far (p := ⟨gb286, 1, none⟩) (Kd.R_far (p := ⟨gb286, 0, none⟩) (Kd.R_types HO279.out BK286.out (by decide)) (fun _ hk => hk.2) (.int .i64 t283)) (fun _ hk => hk.2) (.int .i64 t284)) (fun _ h_ => h_.1))))) (below_size (bl_ HB.out))); have n5_ := Aside0.mk (Kd.N_lower (Kd.N_mono (ok' := fun k_ => some k_ ≠ (v288 : Value).ownBlock ∧ some k_ ≠ (v291 : Value).ownBlock ∧ some k_ ≠ (.slice Ao47 t274.length co47 : Value).ownBlock ∧ some k_ ≠ (.slice Ao48 t277.length co48 : Value).ownBlock ∧ some k_ ≠ (.slice Ao49 t280.length co49 : Value).ownBlock ∧ k_ ≠ gb286) ho2 (fun k_ hk_ => ⟨hk_.2.1, hk_.2.2, (Kd.fresh' (Kd.R_lt (by (with_reducible repeat (first | apply Kd.R_alloc | apply Kd.R_drewN | apply Kd.R_drew)); exact (Kd.R_mono (Kd.R_far (p := ⟨gb286, 1, none⟩) (Kd.R_far (p := ⟨gb286, 0, none⟩) (Kd.R_types HO276.out BK286.out (by decide)) (fun _ hk => hk.2) (.int .i64 t283)) (fun _ hk => hk.2) (.int .i64 t284)) (fun _ h_ => h_.1)))) k_ hk_.1), (Kd.fresh' (Kd.R_lt (by (with_reducible repeat (first | apply Kd.R_alloc | apply Kd.R_drewN | apply Kd.R_drew)); exact (Kd.R_mono (Kd.R_far (p := ⟨gb286, 1, none⟩) (Kd.R_far (p := ⟨gb286, 0, none⟩) (Kd.R_types HO279.out BK286.out (by decide)) (fun _ hk => hk.2) (.int .i64 t283)) (fun _ hk => hk.2) (.int .i64 t284)) (fun _ h_ => h_.1)))) k_ hk_.1), (Kd.fresh' (Kd.N_lt (by (with_reducible repeat (first | apply Kd.N_alloc | apply Kd.N_drewN | apply Kd.N_drew)); exact (Kd.N_mono (Kd.N_far (p := ⟨gb286, 1, none⟩) (Kd.N_far (p := ⟨gb286, 0, none⟩) (Kd.N_mono HO282.out (fun k_ hk => (⟨hk, hk.2⟩ : _ ∧ k_ ≠ gb286))) (fun _ hk => hk.2) (.int .i64 t283)) (fun _ hk => hk.2) (.int .i64 t284)) (fun _ h_ => h_.1)))) k_ hk_.1), (Kd.freshB (g := gb286) (o := .cells #[.int .i64 t283, .int .i64 t284] 27 (0, 0)) (by (with_reducible repeat (first | refine blk_drewN ?_ _ | refine blk_drew ?_ | refine blk_alloc ?_ _)); refine blk_put (cs := #[.int .i64 t283, .int .i64 0]) ?_ 1 _ rfl; (with_reducible repeat (first | refine blk_drewN ?_ _ | refine blk_drew ?_ | refine blk_alloc ?_ _)); refine blk_put (cs := #[.int .i64 0, .int .i64 0]) ?_ 0 _ rfl; (with_reducible repeat (first | refine blk_drewN ?_ _ | refine blk_drew ?_ | refine blk_alloc ?_ _)); exact BK286.out) k_ hk_.1)⟩)) (below_size (bl_ HB.out))); have n6_ := Aside0.mk (blk_below (g := gb286) (o := .cells #[.int .i64 t283, .int .i64 t284] 27 (0, 0)) (by (with_reducible repeat (first | refine blk_drewN ?_ _ | refine blk_drew ?_ | refine blk_alloc ?_ _)); refine blk_put (cs := #[.int .i64 t283, .int .i64 0]) ?_ 1 _ rfl; (with_reducible repeat (first | refine blk_drewN ?_ _ | refine blk_drew ?_ | refine blk_alloc ?_ _)); refine blk_put (cs := #[.int .i64 0, .int .i64 0]) ?_ 0 _ rfl; (with_reducible repeat (first | refine blk_drewN ?_ _ | refine blk_drew ?_ | refine blk_alloc ?_ _)); exact BK286.out) hb); have n7_ := Aside0.mk (below_step (bl_ HB.out) hb); clear HO276 HO279 HO282 BK286 HB; have HO276 := n0_; have HO279 := n1_; have HO282 := n2_; have HO289 := n3_; have HO292 := n4_; have HO295 := n5_; have BK286 := n6_; have HB := n7_; clear n0_ n1_ n2_ n3_ n4_ n5_ n6_ n7_; (try clear hb); (try clear hb2); (try clear hk); (try clear hi); (try clear ho0); (try clear ho1); (try clear ho2); obtain ⟨Ao54, co54, eo54⟩ := Kd.R_slice HO289.out; subst eo54; obtain ⟨Ao55, co55, eo55⟩ := Kd.R_slice HO292.out; subst eo55; obtain ⟨Ao56, co56, eo56⟩ := Kd.N_slice HO295.out; subst eo56) | ((with_reducible refine gate_callee (f := 23) rfl ?_); refine goesL_ (some 15) rfl rfl Try.func23 (by kernel_rfl) rfl #[.agg #[.slice Ao54 t287.length co54, .slice Ao55 t290.length co55, .slice Ao56 t293.length co56], .agg #[.int .i64 0, .int .i64 5], .int .i64 29] rfl (by (try simp only [List.map_toArray, List.map_cons, List.map_nil]); first | done | rfl | (simp only [List.length_drop, List.length_take]; rfl)) ?_; (with_reducible refine (spans_Greatest.calls k _ _ t287 _ _ t290 _ _ t293 0 5 29 t296 t297 _ ?side1 ?side2 ?side3 ?side4 ?side5 ?side6 A4.out).mono ?_); (case side1 => exact cr_ (Kd.R_reads' HO289.out).2.2); (case side2 => exact (Kd.R_reads' HO289.out).2.1); (case side3 => exact cr_ (Kd.R_reads' HO292.out).2.2); (case side4 => exact (Kd.R_reads' HO292.out).2.1); (case side5 => exact cr_ (Kd.N_reads' HO295.out).2.2); (case side6 => exact (Kd.N_reads' HO295.out).2.1); rintro e w57 ⟨rfl, hb⟩; refine ⟨_, rfl, ?_⟩; have n0_ := Aside0.mk (Kd.R_below (by (with_reducible repeat (first | apply Kd.R_alloc | apply Kd.R_drewN | apply Kd.R_drew)); exact HO276.out) hb); have n1_ := Aside0.mk (Kd.R_below (by (with_reducible repeat (first | apply Kd.R_alloc | apply Kd.R_drewN | apply Kd.R_drew)); exact HO279.out) hb); have n2_ := Aside0.mk (Kd.N_below (by (with_reducible repeat (first | apply Kd.N_alloc | apply Kd.N_drewN | apply Kd.N_drew)); exact HO282.out) hb); have n3_ := Aside0.mk (Kd.R_below (by (with_reducible repeat (first | apply Kd.R_alloc | apply Kd.R_drewN | apply Kd.R_drew)); exact HO289.out) hb); have n4_ := Aside0.mk (Kd.R_below (by (with_reducible repeat (first | apply Kd.R_alloc | apply Kd.R_drewN | apply Kd.R_drew)); exact HO292.out) hb); have n5_ := Aside0.mk (Kd.N_below (by (with_reducible repeat (first | apply Kd.N_alloc | apply Kd.N_drewN | apply Kd.N_drew)); exact HO295.out) hb); have n6_ := Aside0.mk (blk_below (bk_ BK286.out) hb); have n7_ := Aside0.mk (below_step (bl_ HB.out) hb); clear HO276 HO279 HO282 HO289 HO292 HO295 BK286 HB; have HO276 := n0_; have HO279 := n1_; have HO282 := n2_; have HO289 := n3_; have HO292 := n4_; have HO295 := n5_; have BK286 := n6_; have HB := n7_; clear n0_ n1_ n2_ n3_ n4_ n5_ n6_ n7_; (try clear hb); (try clear hb2); (try clear hk); (try clear hi)))
  go_ret
  exact ⟨by first | rfl | (simp [errW_none, errW_some] <;> rfl) | (simp [*, errW_none, errW_some] <;> rfl), bl_ HB.out⟩
end Go.Proofs.Yteodlmgmmpkpoaa.PS
end
section
namespace Go.Proofs.Yteodlmgmmpkpoaa.PS
open Go.RowKit
set_option maxRecDepth 100000 in
theorem works_total : swashplatelaw01_works.f 100 = some true := by kernel_rfl
end Go.Proofs.Yteodlmgmmpkpoaa.PS
end
section
namespace Go.Proofs.Yteodlmgmmpkpoaa.PS
open Go.RowKit Go.Proofs.YteodlmgmmpkpoaaW.PrintWords Go.Proofs.YteodlmgmmpkpoaaW.PrintLast Go.Proofs.YteodlmgmmpkpoaaW.PrintMore
set_option linter.unusedVariables false
theorem leO_add {α : Type} {f : Nat → Option α} (h : ∀ k, LeO (f k) (f (k + 1))) {r : α} {k : Nat} (hk : f k = some r) : ∀ m, f (k + m) = some r
  | 0 => hk
  | m + 1 => h (k + m) r (leO_add h hk m)
theorem works_at (k : Nat) (hk : 100 ≤ k) : swashplatelaw01_works.f k = some true := by
  obtain ⟨m, rfl⟩ : ∃ m, k = 100 + m := ⟨k - 100, by omega⟩
  exact leO_add swashplatelaw01_works.mono works_total m
end Go.Proofs.Yteodlmgmmpkpoaa.PS
end
section
namespace Go.Proofs.Yteodlmgmmpkpoaa.PS
open Go.RowKit Go.Deep Go.ChangeShapes Go.WideShapes Go.Proofs.YteodlmgmmpkpoaaW.PrintWords
set_option linter.unusedVariables false
def Opn {α : Type} (P : Program) (d : Kd α) (t : TypeId) (ok : α → Prop) : Prop :=
  P.cellsOf t = d.sz ∧ ∀ (H : Type) (enc : TypeId × Value → H) (w : World) (base : Nat) (held : Bool) (fuel : Nat) (cs : List Value) (x : DataW H × List MemPlace),
    DataW.trod enc P w base (fun _ => true) held fuel t cs = some x → ∃ a, d.K w a cs ∧ ok a
theorem opn_int {P : Program} {t : TypeId} {k : IntKind} (ht : P.underlying t = some (.int k)) (hc : P.cellsOf t = 1) : Opn P (Kd.int k) t (fun n => (Lit.int k n).wf = true) :=
  ⟨hc, fun H enc w base held fuel cs x h => by obtain ⟨n, rfl, _, hw⟩ := DataW.trod_int ht h; exact ⟨n, rfl, hw⟩⟩
theorem opn_row {α : Type} {P : Program} {d : Kd α} {t e : TypeId} {ok : α → Prop} (ht : P.underlying t = some (.slice e)) (he : Opn P d e ok) {H : Type} {enc : TypeId × Value → H} {w : World} {base : Nat} {held : Bool} {fuel : Nat} {cs : List Value} {x : DataW H × List MemPlace}
    (h : DataW.trod enc P w base (fun _ => true) held fuel t cs = some x) : ∃ A c, ∃ l : List α, cs = [.slice A l.length c] ∧ l.length ≤ c ∧ d.C w A l.length l ∧ (∀ a ∈ l, ok a) ∧ l.length ≤ maxLen := by
  rcases open_slice ht h with ⟨rfl, _⟩ | ⟨a, len, cap, m, n, D, Pl, rfl, _, hl, hm, hmm, _, hx⟩
  · exact ⟨none, 0, [], rfl, Nat.le_refl _, ⟨rfl, by simp, fun h0 => absurd h0 (Nat.lt_irrefl _)⟩, by simp, Nat.zero_le _⟩
  · simp only [if_true] at hmm
    subst hmm
    have each : ∀ i, i < len → ∃ q : α × List Value, d.K w q.1 q.2 ∧ ok q.1 ∧ q.2.length = d.sz ∧ ∀ j u, q.2[j]? = some u → w.cell? (a.add (i * d.sz + j)) = some u := by
      intro i hi
      obtain ⟨cs', hc1, hc2⟩ := hx i (by omega)
      obtain ⟨y, hy1, hy2⟩ := he.2 H enc w base held n cs' _ hc2
      rw [he.1] at hc1
      obtain ⟨_, hlen, hcell⟩ := World.cells?_some hc1
      refine ⟨(y, cs'), hy1, hy2, hlen, fun j u hu => ?_⟩
      have hj : j < d.sz := by
        rw [← hlen]
        exact (List.getElem?_eq_some_iff.1 hu).1
      have := hcell j hj
      simp only [Addr.add_add] at this
      rw [this]
      exact hu
    by_cases h0 : len = 0
    · subst h0
      exact ⟨some a, m, [], rfl, Nat.zero_le _, ⟨rfl, by simp, fun h0 => absurd h0 (Nat.lt_irrefl _)⟩, by simp, Nat.zero_le _⟩
    · haveI : Inhabited (α × List Value) := ⟨(each 0 (by omega)).choose⟩
      obtain ⟨f, hf⟩ := choose_lt each
      have hlen : ((List.range len).map fun i => (f i).1).length = len := by simp
      refine ⟨some a, m, (List.range len).map fun i => (f i).1, by rw [hlen], by rw [hlen]; exact hl, ⟨rfl, by rw [hlen]; simp only [maxLen] at hm; omega, fun _ => ⟨a, rfl, fun j p hp => ?_⟩⟩, ?_, by rw [hlen]; exact Nat.le_trans hl hm⟩
      · have hj : j < len := by
          have := (List.getElem?_eq_some_iff.1 hp).1
          rwa [hlen] at this
        have : p = (f j).1 := by simpa [hj] using hp.symm
        subst this
        obtain ⟨q1, _, q3, q4⟩ := hf j hj
        exact ⟨(f j).2, q3, q1, q4⟩
      · intro y hy
        obtain ⟨i, hi, rfl⟩ := List.mem_map.1 hy
        exact (hf i (List.mem_range.1 hi)).2.1
theorem opn_slice {α : Type} {P : Program} {d : Kd α} {t e : TypeId} {e' : Nat} {ok : α → Prop} (ht : P.underlying t = some (.slice e)) (hc : P.cellsOf t = 1) (he : Opn P d e ok) : Opn P (Kd.slice e' d) t (fun l => (∀ a ∈ l, ok a) ∧ l.length ≤ maxLen) :=
  ⟨hc, fun H enc w base held fuel cs x h => by
    obtain ⟨A, c, l, rfl, h1, h2, h3, h4⟩ := opn_row ht he h
    exact ⟨l, ⟨A, c, rfl, h1, h2⟩, h3, h4⟩⟩
theorem opn_span {P : Program} {t : TypeId} {f0 f1 : Field} (ht : P.underlying t = some (.struct #[f0, f1])) (hc : P.cellsOf t = 2) (o0 : f0.offset = 0) (o1 : f1.offset = 1) (c0 : P.cellsOf f0.type = 1) (c1 : P.cellsOf f1.type = 1)
    (i0 : P.underlying f0.type = some (.int .i64)) (i1 : P.underlying f1.type = some (.int .i64)) : Opn P k27 t (fun s => (Lit.int .i64 s.f0).wf = true ∧ (Lit.int .i64 s.f1).wf = true) :=
  ⟨hc, fun H enc w base held fuel cs x h => by
    obtain ⟨y0, y1, n, _, hl, h0, h1⟩ := trod_struct2 ht h
    rw [hc] at hl
    match cs, hl with
    | [u, v], _ =>
      rw [o0, c0] at h0
      rw [o1, c1] at h1
      obtain ⟨a, ha, _, wa⟩ := DataW.trod_int i0 h0
      obtain ⟨b, hb, _, wb⟩ := DataW.trod_int i1 h1
      simp at ha hb
      subst ha hb
      exact ⟨⟨a, b⟩, k27_mk _ _, wa, wb⟩⟩
end Go.Proofs.Yteodlmgmmpkpoaa.PS
end
section
namespace Go.Proofs.Yteodlmgmmpkpoaa.PS
open Go.RowKit Go.Deep Go.ChangeShapes Go.WideShapes Go.ChangeAt Go.Proofs.YteodlmgmmpkpoaaW.PrintWords
set_option linter.unusedVariables false
theorem ownNone : ownKnob Try.prog.godebug = none := by kernel_rfl
theorem laidOut : laidOutB Try.prog = true := by kernel_rfl
def wfI (n : Int) : Prop := (Lit.int .i64 n).wf = true
def wfS (s : S27) : Prop := wfI s.f0 ∧ wfI s.f1
theorem opn3 : Opn Try.prog (Kd.int .i64) 3 wfI := opn_int Try.underlying3 (by kernel_rfl)
theorem opn22 : Opn Try.prog (Kd.slice 3 (Kd.int .i64)) 22 (fun l => (∀ a ∈ l, wfI a) ∧ l.length ≤ maxLen) := opn_slice Try.underlying22 (by kernel_rfl) opn3
theorem opn27 : Opn Try.prog k27 27 wfS := opn_span Try.underlying27 (by kernel_rfl) rfl rfl (by kernel_rfl) (by kernel_rfl) Try.underlying3 Try.underlying3
section
variable {H : Type} {enc : TypeId × Value → H} {w : World} {base : Nat} {held : Bool} {v : Value} {d : DataW H} {ps : List MemPlace} {r : Reach} {b0 : Nat}
set_option maxRecDepth 100000 in
theorem arg38 (hv : Value.okWide Try.prog w r b0 38 v) (h : DataW.Trod enc Try.prog w base (fun _ => true) held 38 v d ps) :
    ∃ A c, ∃ l : List S27, v = .slice A l.length c ∧ l.length ≤ c ∧ k27.C w A l.length l ∧ (∀ a ∈ l, wfS a) ∧ l.length ≤ maxLen := by
  obtain ⟨a0, len, cap, rfl⟩ := okWide_slice Try.underlying38 hv
  obtain ⟨fuel, hf⟩ := h
  obtain ⟨A, c, l, hcs, h1, h2, h3, h4⟩ := opn_row Try.underlying38 opn27 hf
  simp [Value.cells] at hcs
  obtain ⟨rfl, rfl, rfl⟩ := hcs
  exact ⟨_, _, l, rfl, h1, h2, h3, h4⟩
set_option maxRecDepth 100000 in
theorem arg25 (hv : Value.okWide Try.prog w r b0 25 v) (h : DataW.Trod enc Try.prog w base (fun _ => true) held 25 v d ps) :
    ∃ A0 c0, ∃ X : List Int, ∃ A1 c1, ∃ Y : List Int, ∃ A2 c2, ∃ V : List (List Int), v = .agg #[.slice A0 X.length c0, .slice A1 Y.length c1, .slice A2 V.length c2] ∧
      X.length ≤ c0 ∧ (Kd.int .i64).C w A0 X.length X ∧ Y.length ≤ c1 ∧ (Kd.int .i64).C w A1 Y.length Y ∧ V.length ≤ c2 ∧ (Kd.slice 3 (Kd.int .i64)).C w A2 V.length V ∧
      (∀ a ∈ X, wfI a) ∧ (∀ a ∈ Y, wfI a) ∧ (∀ a ∈ V, (∀ b ∈ a, wfI b) ∧ a.length ≤ maxLen) := by
  obtain ⟨cs, rfl, hsz⟩ := okWide_struct Try.underlying25 hv
  obtain ⟨c0, c1, c2, rfl⟩ : ∃ a b c, cs = #[a, b, c] := by
    have hs : cs.toList.length = 3 := hsz.trans (by kernel_rfl)
    match h : cs.toList, hs with
    | [a, b, c], _ => exact ⟨a, b, c, by rw [← Array.toArray_toList (xs := cs), h]⟩
  obtain ⟨fuel, hf⟩ := h
  obtain ⟨y0, y1, y2, n, _, _, h0, h1, h2⟩ := trod_struct3 Try.underlying25 hf
  have e1 : Try.prog.cellsOf 22 = 1 := by kernel_rfl
  have e2 : Try.prog.cellsOf 23 = 1 := by kernel_rfl
  simp only [e1, e2, Value.cells, List.drop_zero, List.drop_succ_cons, List.take_succ_cons, List.take_zero] at h0 h1 h2
  obtain ⟨A0, q0, X, hc0, a1, a2, a3, a4⟩ := opn_row Try.underlying22 opn3 h0
  obtain ⟨A1, q1, Y, hc1, b1, b2, b3, b4⟩ := opn_row Try.underlying22 opn3 h1
  obtain ⟨A2, q2, V, hc2, g1, g2, g3, g4⟩ := opn_row Try.underlying23 opn22 h2
  simp only [List.cons.injEq, and_true] at hc0 hc1 hc2
  subst hc0 hc1 hc2
  exact ⟨A0, q0, X, A1, q1, Y, A2, q2, V, rfl, a1, a2, b1, b2, g1, g2, a3, b3, g3⟩
end
end Go.Proofs.Yteodlmgmmpkpoaa.PS
end
section
namespace Go.Proofs.Yteodlmgmmpkpoaa.PS
open Go.RowKit Go.ChangeShapes Go.WideShapes Go.ChangeAt
theorem factKeys : (Rows.spansChecksRow.plainKeys == Try.prog.plainKeys) = true := by kernel_rfl
theorem factHeard : Try.prog.stopsHeard = true := by kernel_rfl
theorem factEnter : Try.prog.mayEnter = true := by kernel_rfl
theorem factLifted : (Rows.spansChecksRow.lifted == Try.prog.liftsFinal) = true := by kernel_rfl
theorem factMake : (Try.prog.make == some Rows.spansChecksRow.make) = true := by kernel_rfl
end Go.Proofs.Yteodlmgmmpkpoaa.PS
end
