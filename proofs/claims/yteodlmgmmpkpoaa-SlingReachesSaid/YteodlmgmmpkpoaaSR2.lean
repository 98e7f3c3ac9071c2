-- Printed by a program of this session out of the translation (hybrid print) and out of hand proofs. Not trusted: Lean checks it.
import Derived.Below
import Derived.Deep.Draws
import Derived.Deep.AppendLies
import Derived.Maps.AppendAt
import Derived.OwnWalk
import Derived.Laws.BytesArg
import Derived.Laws.MakeOwn
import Derived.Laws.OwnMore
import Derived.Deep.OwnRows
import Derived.Tactics
import Derived.Lib.ConvBytes
import Derived.Laws.Slices
import Derived.WalkKit
import Derived.KernelRfl
import Derived.RowKit3
import Derived.Deep.LoopGhost
import Derived.Deep.QuietTactic
import Derived.BigQuiet
import Derived.WideLaws
import Derived.Deep.DeepCutAuto
import Derived.Deep.CutBlock
import Derived.Deep.RegionHeld3
import Derived.Laws.Rows
import Derived.Lib.AppendStr
import Derived.ArgAppend
import Derived.Laws.IdiomCopy
import Derived.RowKit
import Derived.OrdersHeld
import Derived.Laws.BitsLemmas
import Derived.Laws.StructEq
import Derived.Test.YteodlmgmmpkpoaaProg
import Derived.Laws.EntriesVeiled
import Derived.StillTailTactics
import Derived.RangeFuncNested
import Derived.RangeFuncBound
import Derived.RangeFuncCalls
import Derived.RangeFuncLeaves
import Derived.Shelf.Abstract
import Derived.OwnWalkIn
import Derived.TacticsInMore
import Derived.LoopNIn
import Derived.LoopIn
import Derived.RegionIn
import Derived.Deep.Strs
import Derived.Deep.Slices
import Derived.OpenShut
import Derived.ProofKit
import Derived.Carry
import Derived.Test.YteodlmgmmpkpoaaRows
import Derived.Lib.SmallJoins
import Derived.Test.YteodlmgmmpkpoaaSR1
section
namespace Go.Proofs.Yteodlmgmmpkpoaa.PS
open Go.RowKit Go.Shelf Go.Proofs.YteodlmgmmpkpoaaW.PrintWords Go.Proofs.YteodlmgmmpkpoaaW.PrintLast Go.Proofs.YteodlmgmmpkpoaaW.PrintMore
set_option linter.unusedVariables false
set_option linter.unusedSimpArgs false
attribute [local go_sem] Oper.semAt_some
theorem corners_in (n : Nat) (A0 : Option Addr) (n0 c0 : Nat) (A1 : Option Addr) (n1 c1 : Nat) (A2 : Option Addr) (n2 c2 : Nat) (a0 a1 b0 b1 : Int) (w : World) :
    CallsIn Fence.wide n Try.prog 118 #[.agg #[.slice A0 n0 c0, .slice A1 n1 c1, .slice A2 n2 c2], .agg #[.int .i64 a0, .int .i64 a1], .agg #[.int .i64 b0, .int .i64 b1]] w fun e w' =>
      e = .returned (.func (.func 170) #[] #[.pointer (some ⟨w.heap.size, 0, none⟩), .pointer (some ⟨w.heap.size + 1, 0, none⟩), .pointer (some ⟨w.heap.size + 1 + 1, 0, none⟩)]) ∧
      w' = ((w.alloc (.cells #[.slice A0 n0 c0, .slice A1 n1 c1, .slice A2 n2 c2] 25)).alloc (.cells #[.int .i64 a0, .int .i64 a1] 27)).alloc (.cells #[.int .i64 b0, .int .i64 b1] 27) := by
  refine callsIn_of_wp Try.func118 rfl trivial ?_ rfl
  simp only [Try.ntmps118, List.size_toArray, List.length_cons, List.length_nil, Nat.reduceAdd, Nat.reduceSub, Array.replicate_succ, Array.replicate_zero, List.push_toArray, List.append_toArray, List.nil_append, List.cons_append]
  gi_wp2
  go_ret
  exact ⟨rfl, rfl⟩
def vals (pre : List GP) : List Pt := pre.map fun p => p.1
def cellsP (p : Pt) : Array Value := #[.int .i64 p.x, .int .i64 p.y, .int .i64 p.n, .int .i64 p.d]
def ExtI (b6 b7 b8 : Nat) (pre : List GP) (W : World) : Prop :=
  W.heap[b6]? = some (.cells (cellsP (leastP (vals pre))) 133 (0, 0)) ∧ W.heap[b7]? = some (.cells (cellsP (mostP (vals pre))) 133 (0, 0)) ∧ W.heap[b8]? = some (.cells #[.bool (!pre.isEmpty)] 4 (0, 0))
def put4 (W : World) (b : Nat) (L : Pt) : World := (((W.setCell ⟨b, 0, none⟩ (.int .i64 L.x)).setCell ⟨b, 1, none⟩ (.int .i64 L.y)).setCell ⟨b, 2, none⟩ (.int .i64 L.n)).setCell ⟨b, 3, none⟩ (.int .i64 L.d)
theorem put4_same {W : World} {b : Nat} {Q : Pt} (L : Pt) (h : W.heap[b]? = some (.cells (cellsP Q) 133 (0, 0))) : (put4 W b L).heap[b]? = some (.cells (cellsP L) 133 (0, 0)) :=
  blk_put (blk_put (blk_put (blk_put h 0 _ rfl) 1 _ rfl) 2 _ rfl) 3 _ rfl
theorem put4_far {W : World} {b g : Nat} {t : TypeId} {cs : Array Value} (L : Pt) (h : W.heap[g]? = some (.cells cs t (0, 0))) (hg : g ≠ b) : (put4 W b L).heap[g]? = some (.cells cs t (0, 0)) :=
  blk_far (blk_far (blk_far (blk_far h hg _) hg _) hg _) hg _
theorem put4_keeps (W : World) (b : Nat) (L : Pt) : KeepsOthers W (put4 W b L) :=
  (((KeepsOthers.setCell _ _ _).trans (KeepsOthers.setCell _ _ _)).trans (KeepsOthers.setCell _ _ _)).trans (KeepsOthers.setCell _ _ _)
theorem put4_below {w W : World} {b : Nat} (L : Pt) (h : Below w.heap.size w W) (hb : w.heap.size ≤ b) : Below w.heap.size w (put4 W b L) :=
  below_set (below_set (below_set (below_set h hb) hb) hb) hb
theorem put4_kp {n : Nat} {S : Nat → Prop} {W0 W : World} {b : Nat} (L : Pt) (h : KpS n S W0 W) (hn : n ≤ b) (hS : S b) : KpS n S W0 (put4 W b L) :=
  ⟨(((h.1.setCell hn _).setCell hn _).setCell hn _).setCell hn _, fun k c t f hk hs => by
    have hkb : k ≠ b := fun e => hs (e ▸ hS)
    have := h.2 k c t f hk hs
    unfold put4
    rw [Below.heap_setCell _ _ _ _ hkb, Below.heap_setCell _ _ _ _ hkb, Below.heap_setCell _ _ _ _ hkb, Below.heap_setCell _ _ _ _ hkb]
    exact this⟩
theorem kothers_below {W W' : World} (h : Below W.heap.size W W') : KeepsOthers W W' := KeepsOthers.of_grownBy (grown_of_below h) (fun _ _ e => by cases e)
theorem KpS.put8 {n : Nat} {S : Nat → Prop} {W0 W : World} {b : Nat} {v : Value} (h : KpS n S W0 W) (hn : n ≤ b) (hS : S b) : KpS n S W0 (W.setCell ⟨b, 0, none⟩ v) :=
  ⟨h.1.setCell hn _, fun k c t f hk hs => (Below.heap_setCell _ _ _ _ (fun e : k = b => hs (e ▸ hS))).trans (h.2 k c t f hk hs)⟩
theorem cells_own {β : Type} (b : Nat) (t : TypeId) (f : β → Array Value) : Own (fun s W => W.heap[b]? = some (.cells (f s) t (0, 0))) := fun s X Y row hs hg hrow =>
  blk_grown hs hg (fun e => by obtain ⟨o, ho, hc⟩ := hrow b e.symm; rw [hs] at ho; cases ho; cases hc)
theorem least_snoc (pre : List GP) (x : GP) (h : pre ≠ []) : leastP (vals (pre ++ [x])) = if ltP x.1 (leastP (vals pre)) then x.1 else leastP (vals pre) := by
  cases pre with
  | nil => exact absurd rfl h
  | cons a l => simp [vals, leastP]
theorem most_snoc (pre : List GP) (x : GP) (h : pre ≠ []) : mostP (vals (pre ++ [x])) = if ltP (mostP (vals pre)) x.1 then x.1 else mostP (vals pre) := by
  cases pre with
  | nil => exact absurd rfl h
  | cons a l => simp [vals, mostP]
theorem fold_good (l : List GP) (f : Pt → Pt → Bool) : ∀ a, GoodP a → GoodP ((vals l).foldl (fun m q => if f m q then q else m) a) := by
  induction l with
  | nil => intro a h; exact h
  | cons b l ih =>
    intro a h
    refine ih _ ?_
    dsimp only
    by_cases hf : f a b.1 = true
    · rw [if_pos hf]; exact b.2
    · rw [if_neg hf]; exact h
theorem least_good (pre : List GP) (h : pre ≠ []) : GoodP (leastP (vals pre)) := by
  cases pre with
  | nil => exact absurd rfl h
  | cons a l => exact fold_good l (fun m q => ltP q m) a.1 a.2
theorem most_good (pre : List GP) (h : pre ≠ []) : GoodP (mostP (vals pre)) := by
  cases pre with
  | nil => exact absurd rfl h
  | cons a l => exact fold_good l (fun m q => ltP m q) a.1 a.2
set_option maxRecDepth 100000 in
set_option maxHeartbeats 1000000 in
theorem extremes_in (n : Nat) (hn : 6 ≤ n) (A0 : Option Addr) (c0 : Nat) (A1 : Option Addr) (c1 : Nat) (A2 : Option Addr) (c2 : Nat) (X Y : List Int) (V : List (List Int)) (a0 a1 b0 b1 : Int)
    (ht : tableB X Y V = true) (hxon : onB X a0 a1 = true) (hyon : onB Y b0 b1 = true) (hxle : a0 ≤ a1) (hyle : b0 ≤ b1) (w : World)
    (hr0 : Kd.C (Kd.int .i64) w A0 X.length X) (hc0 : X.length ≤ c0) (hr1 : Kd.C (Kd.int .i64) w A1 Y.length Y) (hc1 : Y.length ≤ c1) (hr2 : Kd.C (Kd.slice 3 (Kd.int .i64)) w A2 V.length V) (hc2 : V.length ≤ c2) :
    CallsIn Fence.wide n Try.prog 89 #[.agg #[.slice A0 X.length c0, .slice A1 Y.length c1, .slice A2 V.length c2], .agg #[.int .i64 a0, .int .i64 a1], .agg #[.int .i64 b0, .int .i64 b1]] w fun e w' =>
      e = .returned (.tuple #[.agg (cellsP (leastP (vals (gridG (stopsL X a0 a1) (stopsL Y b0 b1) (fG X Y V))))), .agg (cellsP (mostP (vals (gridG (stopsL X a0 a1) (stopsL Y b0 b1) (fG X Y V)))))]) ∧ Below w.heap.size w w' := by
  have h1 : 1 ≤ n := by omega
  have HR0 := Aside0.mk hr0
  have HR1 := Aside0.mk hr1
  have HR2 := Aside0.mk hr2
  clear hr0 hr1 hr2
  refine callsIn_of_wp_marks Try.func89 rfl trivial ?_ rfl
  simp only [Try.ntmps89, List.size_toArray, List.length_cons, List.length_nil, Nat.reduceAdd, Nat.reduceSub, Array.replicate_succ, Array.replicate_zero, List.push_toArray, List.append_toArray, List.nil_append, List.cons_append]
  gi_wp2_with (refine ⟨trivial, ?_⟩; gi_at_call 118; refine (corners_in (n - 1) _ _ _ _ _ _ _ _ _ _ _ _ _ _).mono ?_; rintro e w' ⟨rfl, rfl⟩)
  have hb : Below w.heap.size w (((((((((w.alloc (.cells #[.slice A0 X.length c0, .slice A1 Y.length c1, .slice A2 V.length c2] 25)).alloc (.cells #[.int .i64 a0, .int .i64 a1] 27)).alloc (.cells #[.int .i64 b0, .int .i64 b1] 27)).alloc (.cells #[.int .i64 0, .int .i64 0, .int .i64 0, .int .i64 0] 133)).alloc (.cells #[.int .i64 0, .int .i64 0, .int .i64 0, .int .i64 0] 133)).alloc (.cells #[.bool false] 4)).alloc (.cells #[.slice A0 X.length c0, .slice A1 Y.length c1, .slice A2 V.length c2] 25)).alloc (.cells #[.int .i64 a0, .int .i64 a1] 27)).alloc (.cells #[.int .i64 b0, .int .i64 b1] 27)) := by
    repeat (first | exact Below.refl _ _ | apply below_alloc)
  obtain ⟨W3, hW3⟩ : ∃ W3, ((w.alloc (.cells #[.slice A0 X.length c0, .slice A1 Y.length c1, .slice A2 V.length c2] 25)).alloc (.cells #[.int .i64 a0, .int .i64 a1] 27)).alloc (.cells #[.int .i64 b0, .int .i64 b1] 27) = W3 := ⟨_, rfl⟩
  have hz3 : W3.heap.size = w.heap.size + 3 := by rw [← hW3]; simp
  have k6 := blk_new W3 (.cells #[.int .i64 0, .int .i64 0, .int .i64 0, .int .i64 0] 133)
  have k7 := blk_new (W3.alloc (.cells #[.int .i64 0, .int .i64 0, .int .i64 0, .int .i64 0] 133)) (.cells #[.int .i64 0, .int .i64 0, .int .i64 0, .int .i64 0] 133)
  have k8 := blk_new ((W3.alloc (.cells #[.int .i64 0, .int .i64 0, .int .i64 0, .int .i64 0] 133)).alloc (.cells #[.int .i64 0, .int .i64 0, .int .i64 0, .int .i64 0] 133)) (.cells #[.bool false] 4)
  rw [hW3] at hb ⊢
  obtain ⟨W6, hW6⟩ : ∃ W6, ((W3.alloc (.cells #[.int .i64 0, .int .i64 0, .int .i64 0, .int .i64 0] 133)).alloc (.cells #[.int .i64 0, .int .i64 0, .int .i64 0, .int .i64 0] 133)).alloc (.cells #[.bool false] 4) = W6 := ⟨_, rfl⟩
  have hz6 : W6.heap.size = w.heap.size + 6 := by rw [← hW6]; simp [hz3]
  replace k6 : W6.heap[w.heap.size + 1 + 1 + 1]? = some (.cells #[.int .i64 0, .int .i64 0, .int .i64 0, .int .i64 0] 133 (0, 0)) := by rw [← hW6]; have := blk_alloc (blk_alloc k6 (.cells #[.int .i64 0, .int .i64 0, .int .i64 0, .int .i64 0] 133)) (.cells #[.bool false] 4); rwa [hz3] at this
  replace k7 : W6.heap[w.heap.size + 1 + 1 + 1 + 1]? = some (.cells #[.int .i64 0, .int .i64 0, .int .i64 0, .int .i64 0] 133 (0, 0)) := by rw [← hW6]; have := blk_alloc k7 (.cells #[.bool false] 4); rwa [World.size_alloc, hz3] at this
  replace k8 : W6.heap[w.heap.size + 1 + 1 + 1 + 1 + 1]? = some (.cells #[.bool false] 4 (0, 0)) := by rw [← hW6]; have := k8; rwa [World.size_alloc, World.size_alloc, hz3] at this
  rw [hW6] at hb ⊢
  have kT := blk_new W6 (.cells #[.slice A0 X.length c0, .slice A1 Y.length c1, .slice A2 V.length c2] 25)
  have kX := blk_new (W6.alloc (.cells #[.slice A0 X.length c0, .slice A1 Y.length c1, .slice A2 V.length c2] 25)) (.cells #[.int .i64 a0, .int .i64 a1] 27)
  have kY := blk_new ((W6.alloc (.cells #[.slice A0 X.length c0, .slice A1 Y.length c1, .slice A2 V.length c2] 25)).alloc (.cells #[.int .i64 a0, .int .i64 a1] 27)) (.cells #[.int .i64 b0, .int .i64 b1] 27)
  obtain ⟨W0, hW0⟩ : ∃ W0, ((W6.alloc (.cells #[.slice A0 X.length c0, .slice A1 Y.length c1, .slice A2 V.length c2] 25)).alloc (.cells #[.int .i64 a0, .int .i64 a1] 27)).alloc (.cells #[.int .i64 b0, .int .i64 b1] 27) = W0 := ⟨_, rfl⟩
  have hz0 : W0.heap.size = w.heap.size + 9 := by rw [← hW0]; simp [hz6]
  replace k6 : W0.heap[w.heap.size + 1 + 1 + 1]? = some (.cells #[.int .i64 0, .int .i64 0, .int .i64 0, .int .i64 0] 133 (0, 0)) := by rw [← hW0]; exact blk_alloc (blk_alloc (blk_alloc k6 _) _) _
  replace k7 : W0.heap[w.heap.size + 1 + 1 + 1 + 1]? = some (.cells #[.int .i64 0, .int .i64 0, .int .i64 0, .int .i64 0] 133 (0, 0)) := by rw [← hW0]; exact blk_alloc (blk_alloc (blk_alloc k7 _) _) _
  replace k8 : W0.heap[w.heap.size + 1 + 1 + 1 + 1 + 1]? = some (.cells #[.bool false] 4 (0, 0)) := by rw [← hW0]; exact blk_alloc (blk_alloc (blk_alloc k8 _) _) _
  replace kT : W0.heap[w.heap.size + 1 + 1 + 1 + 1 + 1 + 1]? = some (.cells #[.slice A0 X.length c0, .slice A1 Y.length c1, .slice A2 V.length c2] 25 (0, 0)) := by rw [← hW0]; have := blk_alloc (blk_alloc kT (.cells #[.int .i64 a0, .int .i64 a1] 27)) (.cells #[.int .i64 b0, .int .i64 b1] 27); rwa [hz6] at this
  replace kX : W0.heap[w.heap.size + 1 + 1 + 1 + 1 + 1 + 1 + 1]? = some (.cells #[.int .i64 a0, .int .i64 a1] 27 (0, 0)) := by rw [← hW0]; have := blk_alloc kX (.cells #[.int .i64 b0, .int .i64 b1] 27); rwa [World.size_alloc, hz6] at this
  replace kY : W0.heap[w.heap.size + 1 + 1 + 1 + 1 + 1 + 1 + 1 + 1]? = some (.cells #[.int .i64 b0, .int .i64 b1] 27 (0, 0)) := by rw [← hW0]; have := kY; rwa [World.size_alloc, World.size_alloc, hz6] at this
  rw [hW0] at hb ⊢
  clear hW0 hW3 hW6 hz3 hz6
  obtain ⟨s1, e1⟩ : ∃ k, w.heap.size + 1 = k := ⟨_, rfl⟩
  obtain ⟨s2, e2⟩ : ∃ k, s1 + 1 = k := ⟨_, rfl⟩
  obtain ⟨b6, e6⟩ : ∃ k, s2 + 1 = k := ⟨_, rfl⟩
  obtain ⟨b7, e7⟩ : ∃ k, b6 + 1 = k := ⟨_, rfl⟩
  obtain ⟨b8, e8⟩ : ∃ k, b7 + 1 = k := ⟨_, rfl⟩
  obtain ⟨tb, et⟩ : ∃ k, b8 + 1 = k := ⟨_, rfl⟩
  obtain ⟨xb, ex⟩ : ∃ k, tb + 1 = k := ⟨_, rfl⟩
  obtain ⟨yb, ey⟩ : ∃ k, xb + 1 = k := ⟨_, rfl⟩
  simp only [e1, e2, e6, e7, e8, et, ex, ey] at k6 k7 k8 kT kX kY ⊢
  have hord : w.heap.size < b6 ∧ b6 < b7 ∧ b7 < b8 ∧ b8 < tb ∧ tb < xb ∧ xb < yb ∧ yb < W0.heap.size := by omega
  have HO := Aside0.mk hord
  have HK6 := Aside0.mk k6
  have HK7 := Aside0.mk k7
  have HK8 := Aside0.mk k8
  have HKT := Aside0.mk kT
  have HKX := Aside0.mk kX
  have HKY := Aside0.mk kY
  have HB := Aside0.mk hb
  clear e1 e2 e6 e7 e8 et ex ey hz0 hord k6 k7 k8 kT kX kY hb
  refine wpIn_rangeFunc_ownH (F := Fence.wide) rfl h1 (gf := 170) (lb := #[.pointer (some ⟨tb, 0, none⟩), .pointer (some ⟨xb, 0, none⟩), .pointer (some ⟨yb, 0, none⟩)]) rfl trivial (enters_of Try.func170 (by kernel_rfl) rfl)
    (encs := encP) (Kp := KpS w.heap.size (fun k => k = b6 ∨ k = b7 ∨ k = b8)) (S := fun ys => ys = gridG (stopsL X a0 a1) (stopsL Y b0 b1) (fG X Y V)) (Sp := fun pre => pre <+: gridG (stopsL X a0 a1) (stopsL Y b0 b1) (fG X Y V)) (N := (stopsL X a0 a1).length * (stopsL Y b0 b1).length) (w0 := W0)
    (fun l J Jx W hW hJ hJx hY hJ0 => corners1_in (n - 1) (by omega) l tb xb yb _ A0 c0 A1 c1 A2 c2 X Y V a0 a1 b0 b1 ht hxon hyon hxle hyle w HR0.out hc0 HR1.out hc1 HR2.out hc2 J Jx hY W hJ (HB.out.trans (hW.mono HB.out.size)) (blk_below HKT.out hW) (blk_below HKX.out hW) (blk_below HKY.out hW)
      (by have := HO.out; omega) (by have := HO.out; omega) (by have := HO.out; omega) (fun k hk => by have := HO.out; have := hW.size; omega) hJ0)
    KpS.trans (KpS.put HB.out.size) (Below.refl _ _) (fun _ => rfl)
    (fun pre W => ExtI b6 b7 b8 pre W ∧ Below w.heap.size w W) (fun _ _ _ => False)
    (OwnFrom.and (Own.from (fun s A B row hs hg hr => ⟨cells_own b6 133 (fun pre => cellsP (leastP (vals pre))) s A B row hs.1 hg hr, cells_own b7 133 (fun pre => cellsP (mostP (vals pre))) s A B row hs.2.1 hg hr, cells_own b8 4 (fun pre => #[.bool (!pre.isEmpty)]) s A B row hs.2.2 hg hr⟩) _) (ownFrom_below (Nat.le_refl _) HB.out.size))
    (fun _ _ _ _ _ hs _ _ => hs)
    ⟨⟨HK6.out, HK7.out, HK8.out⟩, HB.out⟩
    (fun x a' W => ∃ Bx, b8 < Bx ∧ W.heap[Bx]? = some (.cells (cellsP x.1) 133 (0, 0)) ∧ a' = { tmps := #[.agg #[.slice A0 X.length c0, .slice A1 Y.length c1, .slice A2 V.length c2], .agg #[.int .i64 a0, .int .i64 a1], .agg #[.int .i64 b0, .int .i64 b1], .pointer (some ⟨w.heap.size, 0, none⟩), .pointer (some ⟨s1, 0, none⟩), .pointer (some ⟨s2, 0, none⟩), .pointer (some ⟨b6, 0, none⟩), .pointer (some ⟨b7, 0, none⟩), .pointer (some ⟨b8, 0, none⟩), .pointer (some ⟨Bx, 0, none⟩), .agg #[.slice A0 X.length c0, .slice A1 Y.length c1, .slice A2 V.length c2], .agg #[.int .i64 a0, .int .i64 a1], .agg #[.int .i64 b0, .int .i64 b1], .func (.func 170) #[] #[.pointer (some ⟨tb, 0, none⟩), .pointer (some ⟨xb, 0, none⟩), .pointer (some ⟨yb, 0, none⟩)], .agg #[.int .i64 x.1.x, .int .i64 x.1.y, .int .i64 x.1.n, .int .i64 x.1.d], undef, undef, undef, undef, undef, undef, undef, undef, undef, undef, undef, undef, undef, undef, undef, undef, undef, undef, undef, undef, undef, undef, undef, undef], defers := [] })
    (fun x a' _ A B row hs hg hr => by obtain ⟨Bx, h1, h2, h3⟩ := hs; exact ⟨Bx, h1, cells_own Bx 133 (fun (_ : Unit) => cellsP x.1) () A B row h2 hg (fun r e => (hr r e).2), h3⟩)
    ?assign ?body ?done ?stop
  case assign =>
    rintro l pre x W K ⟨hI, hBl⟩ hK
    have HI := Aside0.mk hI
    have HBl := Aside0.mk hBl
    have hlt8 : b8 < W.heap.size := blk_lt hI.2.2
    clear hI hBl
    dsimp only [encP]
    gi_wp2
    exact hK _ _ ((KeepsOthers.alloc _ _).from _) (KpS.of_below HBl.out.size ((Below.refl _ _).alloc (Nat.le_refl _) _)) ⟨⟨blk_alloc HI.out.1 _, blk_alloc HI.out.2.1 _, blk_alloc HI.out.2.2 _⟩, below_alloc HBl.out _⟩ ⟨W.heap.size, hlt8, blk_new _ _, rfl⟩
  case body =>
    rintro l pre x a' W hl ⟨r, hr⟩ ⟨⟨hL, hM, h8⟩, hBl⟩ ⟨Bx, hBx, hP, rfl⟩ hlt
    have hcmp : pre ≠ [] → ∃ c c', spans_value_compare.f 3 x.1.n x.1.d (leastP (vals pre)).n (leastP (vals pre)).d = some c ∧ (c < 0 ↔ ltP x.1 (leastP (vals pre)) = true) ∧ spans_value_compare.f 3 x.1.n x.1.d (mostP (vals pre)).n (mostP (vals pre)).d = some c' ∧ (c' > 0 ↔ ltP (mostP (vals pre)) x.1 = true) := by
      intro he
      obtain ⟨c, hc1, hc2, _⟩ := compare_total x.2 (least_good pre he) 3 (Nat.le_refl _)
      obtain ⟨c', hd1, _, hd2⟩ := compare_total x.2 (most_good pre he) 3 (Nat.le_refl _)
      exact ⟨c, c', hc1, by rw [hc2]; simp [ltP], hd1, by rw [hd2]; simp [ltP]⟩
    have hls := least_snoc pre x
    have hms := most_snoc pre x
    obtain ⟨L, hLe⟩ : ∃ L, leastP (vals pre) = L := ⟨_, rfl⟩
    obtain ⟨M, hMe⟩ : ∃ M, mostP (vals pre) = M := ⟨_, rfl⟩
    rw [hLe] at hL hls hcmp
    rw [hMe] at hM hms hcmp
    have HCMP := Aside0.mk hcmp
    have HLS := Aside0.mk hls
    have HMS := Aside0.mk hms
    have HP := Aside0.mk hP
    have HL := Aside0.mk hL
    have HM := Aside0.mk hM
    have H8 := Aside0.mk h8
    have HBl := Aside0.mk hBl
    have HR := Aside0.mk hr
    have HHL := Aside0.mk hl
    have cx0 : W.cell? ⟨Bx, 0, none⟩ = some (.int .i64 x.1.x) := (blk_cell hP 0).trans rfl
    have cx1 : W.cell? ⟨Bx, 1, none⟩ = some (.int .i64 x.1.y) := (blk_cell hP 1).trans rfl
    have cx2 : W.cell? ⟨Bx, 2, none⟩ = some (.int .i64 x.1.n) := (blk_cell hP 2).trans rfl
    have cx3 : W.cell? ⟨Bx, 3, none⟩ = some (.int .i64 x.1.d) := (blk_cell hP 3).trans rfl
    have c60 : W.cell? ⟨b6, 0, none⟩ = some (.int .i64 L.x) := (blk_cell hL 0).trans rfl
    have c61 : W.cell? ⟨b6, 1, none⟩ = some (.int .i64 L.y) := (blk_cell hL 1).trans rfl
    have c62 : W.cell? ⟨b6, 2, none⟩ = some (.int .i64 L.n) := (blk_cell hL 2).trans rfl
    have c63 : W.cell? ⟨b6, 3, none⟩ = some (.int .i64 L.d) := (blk_cell hL 3).trans rfl
    have c70 : W.cell? ⟨b7, 0, none⟩ = some (.int .i64 M.x) := (blk_cell hM 0).trans rfl
    have c71 : W.cell? ⟨b7, 1, none⟩ = some (.int .i64 M.y) := (blk_cell hM 1).trans rfl
    have c72 : W.cell? ⟨b7, 2, none⟩ = some (.int .i64 M.n) := (blk_cell hM 2).trans rfl
    have c73 : W.cell? ⟨b7, 3, none⟩ = some (.int .i64 M.d) := (blk_cell hM 3).trans rfl
    have f80 := blk_frozen h8 0
    have f60 := blk_frozen hL 0
    have f61 := blk_frozen hL 1
    have f62 := blk_frozen hL 2
    have f63 := blk_frozen hL 3
    have f70 := blk_frozen hM 0
    have f71 := blk_frozen hM 1
    have f72 := blk_frozen hM 2
    have f73 := blk_frozen hM 3
    have n67 : ¬ (b6 = b7) := by have := HO.out; omega
    have n76 : ¬ (b7 = b6) := by have := HO.out; omega
    have n86 : ¬ (b8 = b6) := by have := HO.out; omega
    have n87 : ¬ (b8 = b7) := by have := HO.out; omega
    have nx6 : ¬ (Bx = b6) := by have := HO.out; omega
    have nx7 : ¬ (Bx = b7) := by have := HO.out; omega
    have nx8 : ¬ (Bx = b8) := by have := HO.out; omega
    have n86' : ¬ (b6 = b8) := by have := HO.out; omega
    have n87' : ¬ (b7 = b8) := by have := HO.out; omega
    have g6 : w.heap.size ≤ b6 := by have := HO.out; omega
    have g7 : w.heap.size ≤ b7 := by have := HO.out; omega
    have g8 : w.heap.size ≤ b8 := by have := HO.out; omega
    have hdep : 1 ≤ n - 1 - 1 := by omega
    by_cases he : pre = []
    · subst he
      have c80 : W.cell? ⟨b8, 0, none⟩ = some (.bool false) := (blk_cell h8 0).trans rfl
      clear hP hL hM h8 hBl hr hl hLe hMe hls hms hcmp
      gi_wp2_with (refine ⟨trivial, ?_⟩)
      change ownPostG _ _ _ _ _ _ _ _ ((put4 (put4 W b6 x.1) b7 x.1).setCell ⟨b8, 0, none⟩ (.bool true))
      have k6 := blk_far (p := ⟨b8, 0, none⟩) (put4_far x.1 (put4_same x.1 HL.out) n67) n86' (.bool true)
      have k7 := blk_far (p := ⟨b8, 0, none⟩) (put4_same x.1 (put4_far x.1 HM.out n76)) n87' (.bool true)
      have k8 := blk_put (put4_far x.1 (put4_far x.1 H8.out n86) n87) 0 (.bool true) (cs' := #[.bool true]) rfl
      exact ⟨(((put4_keeps W b6 x.1).trans (put4_keeps _ b7 x.1)).trans (KeepsOthers.setCell _ _ _)).from _, KpS.put8 (put4_kp x.1 (put4_kp x.1 (KpS.refl _ _ W) g6 (.inl rfl)) g7 (.inr (.inl rfl))) g8 (.inr (.inr rfl)), ⟨⟨k6, k7, k8⟩, below_set (put4_below x.1 (put4_below x.1 HBl.out g6) g7) g8⟩⟩
    · have H8 : Aside0 (W.heap[b8]? = some (.cells #[.bool true] 4 (0, 0))) := by
        refine ⟨h8.trans ?_⟩
        cases pre with
        | nil => exact absurd rfl he
        | cons _ _ => rfl
      have c80 : W.cell? ⟨b8, 0, none⟩ = some (.bool true) := (blk_cell H8.out 0).trans rfl
      obtain ⟨c, c', hc1, hc2, hd1, hd2⟩ := hcmp he
      have hL2 := hls he
      have hM2 := hms he
      have HC1 := Aside0.mk hc1
      have HD1 := Aside0.mk hd1
      have HNE : Aside0 ((!(pre ++ [x]).isEmpty) = true) := ⟨by simp⟩
      have g60 := HO.out
      by_cases hl1 : ltP x.1 L = true
      · rw [if_pos hl1] at hL2
        have hcc := hc2.2 hl1
        by_cases hm1 : ltP M x.1 = true
        · rw [if_pos hm1] at hM2
          have hdd := hd2.2 hm1
          have HL2 := Aside0.mk hL2
          have HM2 := Aside0.mk hM2
          clear hP hL hM h8 hBl hr hl hLe hMe hls hms hcmp hc1 hc2 hd1 hd2 hL2 hM2 hl1 hm1 g60
          gi_wp2_with (refine ⟨trivial, ?_⟩; gi_at_call 150; have hcall := CallsIn.inRound l (callsIn_wide (n := n - 1 - 1 - 1).2 (spans_value_compare.calls 3 x.1.n x.1.d L.n L.d c W HC1.out)); with_reducible refine hcall.mono ?_; clear hcall; rintro e w1 ⟨rfl, hb1⟩; have HL1 := Aside0.mk (blk_below HL.out hb1); have HM1 := Aside0.mk (blk_below HM.out hb1); have HP1 := Aside0.mk (blk_below HP.out hb1); have H81 := Aside0.mk (blk_below H8.out hb1); have HB1 := Aside0.mk hb1; clear hb1; have qb60 : w1.cell? ⟨b6, 0, none⟩ = some (.int .i64 L.x) := (blk_cell HL1.out 0).trans rfl; have rb60 := blk_frozen HL1.out 0; have qb61 : w1.cell? ⟨b6, 1, none⟩ = some (.int .i64 L.y) := (blk_cell HL1.out 1).trans rfl; have rb61 := blk_frozen HL1.out 1; have qb62 : w1.cell? ⟨b6, 2, none⟩ = some (.int .i64 L.n) := (blk_cell HL1.out 2).trans rfl; have rb62 := blk_frozen HL1.out 2; have qb63 : w1.cell? ⟨b6, 3, none⟩ = some (.int .i64 L.d) := (blk_cell HL1.out 3).trans rfl; have rb63 := blk_frozen HL1.out 3; have qb70 : w1.cell? ⟨b7, 0, none⟩ = some (.int .i64 M.x) := (blk_cell HM1.out 0).trans rfl; have rb70 := blk_frozen HM1.out 0; have qb71 : w1.cell? ⟨b7, 1, none⟩ = some (.int .i64 M.y) := (blk_cell HM1.out 1).trans rfl; have rb71 := blk_frozen HM1.out 1; have qb72 : w1.cell? ⟨b7, 2, none⟩ = some (.int .i64 M.n) := (blk_cell HM1.out 2).trans rfl; have rb72 := blk_frozen HM1.out 2; have qb73 : w1.cell? ⟨b7, 3, none⟩ = some (.int .i64 M.d) := (blk_cell HM1.out 3).trans rfl; have rb73 := blk_frozen HM1.out 3; have qBx0 : w1.cell? ⟨Bx, 0, none⟩ = some (.int .i64 x.1.x) := (blk_cell HP1.out 0).trans rfl; have qBx1 : w1.cell? ⟨Bx, 1, none⟩ = some (.int .i64 x.1.y) := (blk_cell HP1.out 1).trans rfl; have qBx2 : w1.cell? ⟨Bx, 2, none⟩ = some (.int .i64 x.1.n) := (blk_cell HP1.out 2).trans rfl; have qBx3 : w1.cell? ⟨Bx, 3, none⟩ = some (.int .i64 x.1.d) := (blk_cell HP1.out 3).trans rfl; have q8 : w1.cell? ⟨b8, 0, none⟩ = some (.bool true) := (blk_cell H81.out 0).trans rfl; have r8 := blk_frozen H81.out 0)
          clear qb60 qb61 qb62 qb63 qb70 qb71 qb72 qb73 qBx0 qBx1 qBx2 qBx3 rb60 rb61 rb62 rb63 rb70 rb71 rb72 rb73 q8 r8
          gi_wp2
          refine ⟨trivial, ?_⟩
          gi_at_call 150
          have hcall := CallsIn.inRound l (callsIn_wide (n := n - 1 - 1 - 1).2 (spans_value_compare.calls 3 x.1.n x.1.d M.n M.d c' ((((w1.setCell ⟨b6, 0, none⟩ (.int .i64 x.1.x)).setCell ⟨b6, 1, none⟩ (.int .i64 x.1.y)).setCell ⟨b6, 2, none⟩ (.int .i64 x.1.n)).setCell ⟨b6, 3, none⟩ (.int .i64 x.1.d)) HD1.out))
          with_reducible refine hcall.mono ?_
          clear hcall
          rintro e w2 ⟨rfl, hb2⟩
          have HL2_ := Aside0.mk (blk_below (w := put4 w1 b6 x.1) (put4_same x.1 HL1.out) hb2)
          have HM2_ := Aside0.mk (blk_below (w := put4 w1 b6 x.1) (put4_far x.1 HM1.out n76) hb2)
          have HP2_ := Aside0.mk (blk_below (w := put4 w1 b6 x.1) (put4_far x.1 HP1.out nx6) hb2)
          have H82_ := Aside0.mk (blk_below (w := put4 w1 b6 x.1) (put4_far x.1 H81.out n86) hb2)
          have HB2 := Aside0.mk hb2
          clear hb2
          have qb60 : w2.cell? ⟨b6, 0, none⟩ = some (.int .i64 x.1.x) := (blk_cell HL2_.out 0).trans rfl
          have rb60 := blk_frozen HL2_.out 0
          have qb61 : w2.cell? ⟨b6, 1, none⟩ = some (.int .i64 x.1.y) := (blk_cell HL2_.out 1).trans rfl
          have rb61 := blk_frozen HL2_.out 1
          have qb62 : w2.cell? ⟨b6, 2, none⟩ = some (.int .i64 x.1.n) := (blk_cell HL2_.out 2).trans rfl
          have rb62 := blk_frozen HL2_.out 2
          have qb63 : w2.cell? ⟨b6, 3, none⟩ = some (.int .i64 x.1.d) := (blk_cell HL2_.out 3).trans rfl
          have rb63 := blk_frozen HL2_.out 3
          have qb70 : w2.cell? ⟨b7, 0, none⟩ = some (.int .i64 M.x) := (blk_cell HM2_.out 0).trans rfl
          have rb70 := blk_frozen HM2_.out 0
          have qb71 : w2.cell? ⟨b7, 1, none⟩ = some (.int .i64 M.y) := (blk_cell HM2_.out 1).trans rfl
          have rb71 := blk_frozen HM2_.out 1
          have qb72 : w2.cell? ⟨b7, 2, none⟩ = some (.int .i64 M.n) := (blk_cell HM2_.out 2).trans rfl
          have rb72 := blk_frozen HM2_.out 2
          have qb73 : w2.cell? ⟨b7, 3, none⟩ = some (.int .i64 M.d) := (blk_cell HM2_.out 3).trans rfl
          have rb73 := blk_frozen HM2_.out 3
          have qBx0 : w2.cell? ⟨Bx, 0, none⟩ = some (.int .i64 x.1.x) := (blk_cell HP2_.out 0).trans rfl
          have qBx1 : w2.cell? ⟨Bx, 1, none⟩ = some (.int .i64 x.1.y) := (blk_cell HP2_.out 1).trans rfl
          have qBx2 : w2.cell? ⟨Bx, 2, none⟩ = some (.int .i64 x.1.n) := (blk_cell HP2_.out 2).trans rfl
          have qBx3 : w2.cell? ⟨Bx, 3, none⟩ = some (.int .i64 x.1.d) := (blk_cell HP2_.out 3).trans rfl
          have q8 : w2.cell? ⟨b8, 0, none⟩ = some (.bool true) := (blk_cell H82_.out 0).trans rfl
          have r8 := blk_frozen H82_.out 0
          gi_wp2
          have kp1 : KpS w.heap.size (fun k => k = b6 ∨ k = b7 ∨ k = b8) W (put4 w1 b6 x.1) := put4_kp x.1 (KpS.of_below HBl.out.size HB1.out) g6 (.inl rfl)
          have kp2 : KpS w.heap.size (fun k => k = b6 ∨ k = b7 ∨ k = b8) W w2 := kp1.trans (KpS.of_below (by have := kp1.1.size; have := HBl.out.size; omega) HB2.out)
          have ke2 : KeepsOthers W w2 := (((kothers_below HB1.out).trans (put4_keeps w1 b6 x.1)).trans (kothers_below HB2.out))
          change ownPostG _ _ _ _ _ _ _ _ ((put4 w2 b7 x.1).setCell ⟨b8, 0, none⟩ (.bool true))
          have k6 := blk_far (p := ⟨b8, 0, none⟩) (put4_far x.1 HL2_.out n67) n86' (.bool true)
          have k7 := blk_far (p := ⟨b8, 0, none⟩) (put4_same x.1 HM2_.out) n87' (.bool true)
          have k8 := blk_put (put4_far x.1 H82_.out n87) 0 (.bool true) (cs' := #[.bool true]) rfl
          refine ⟨((ke2.trans (put4_keeps w2 b7 x.1)).trans (KeepsOthers.setCell _ _ _)).from _, KpS.put8 (put4_kp x.1 kp2 g7 (.inr (.inl rfl))) g8 (.inr (.inr rfl)), ⟨⟨?_, ?_, ?_⟩, ?_⟩⟩
          · rw [HL2.out]; exact k6
          · rw [HM2.out]; exact k7
          · rw [HNE.out]; exact k8
          · exact below_set (put4_below x.1 (HBl.out.trans kp2.1) g7) g8
        · rw [if_neg hm1] at hM2
          have hdd : ¬ c' > 0 := fun h => hm1 (hd2.1 h)
          have HL2 := Aside0.mk hL2
          have HM2 := Aside0.mk hM2
          clear hP hL hM h8 hBl hr hl hLe hMe hls hms hcmp hc1 hc2 hd1 hd2 hL2 hM2 hl1 hm1 g60
          gi_wp2_with (refine ⟨trivial, ?_⟩; gi_at_call 150; have hcall := CallsIn.inRound l (callsIn_wide (n := n - 1 - 1 - 1).2 (spans_value_compare.calls 3 x.1.n x.1.d L.n L.d c W HC1.out)); with_reducible refine hcall.mono ?_; clear hcall; rintro e w1 ⟨rfl, hb1⟩; have HL1 := Aside0.mk (blk_below HL.out hb1); have HM1 := Aside0.mk (blk_below HM.out hb1); have HP1 := Aside0.mk (blk_below HP.out hb1); have H81 := Aside0.mk (blk_below H8.out hb1); have HB1 := Aside0.mk hb1; clear hb1; have qb60 : w1.cell? ⟨b6, 0, none⟩ = some (.int .i64 L.x) := (blk_cell HL1.out 0).trans rfl; have rb60 := blk_frozen HL1.out 0; have qb61 : w1.cell? ⟨b6, 1, none⟩ = some (.int .i64 L.y) := (blk_cell HL1.out 1).trans rfl; have rb61 := blk_frozen HL1.out 1; have qb62 : w1.cell? ⟨b6, 2, none⟩ = some (.int .i64 L.n) := (blk_cell HL1.out 2).trans rfl; have rb62 := blk_frozen HL1.out 2; have qb63 : w1.cell? ⟨b6, 3, none⟩ = some (.int .i64 L.d) := (blk_cell HL1.out 3).trans rfl; have rb63 := blk_frozen HL1.out 3; have qb70 : w1.cell? ⟨b7, 0, none⟩ = some (.int .i64 M.x) := (blk_cell HM1.out 0).trans rfl; have rb70 := blk_frozen HM1.out 0; have qb71 : w1.cell? ⟨b7, 1, none⟩ = some (.int .i64 M.y) := (blk_cell HM1.out 1).trans rfl; have rb71 := blk_frozen HM1.out 1; have qb72 : w1.cell? ⟨b7, 2, none⟩ = some (.int .i64 M.n) := (blk_cell HM1.out 2).trans rfl; have rb72 := blk_frozen HM1.out 2; have qb73 : w1.cell? ⟨b7, 3, none⟩ = some (.int .i64 M.d) := (blk_cell HM1.out 3).trans rfl; have rb73 := blk_frozen HM1.out 3; have qBx0 : w1.cell? ⟨Bx, 0, none⟩ = some (.int .i64 x.1.x) := (blk_cell HP1.out 0).trans rfl; have qBx1 : w1.cell? ⟨Bx, 1, none⟩ = some (.int .i64 x.1.y) := (blk_cell HP1.out 1).trans rfl; have qBx2 : w1.cell? ⟨Bx, 2, none⟩ = some (.int .i64 x.1.n) := (blk_cell HP1.out 2).trans rfl; have qBx3 : w1.cell? ⟨Bx, 3, none⟩ = some (.int .i64 x.1.d) := (blk_cell HP1.out 3).trans rfl; have q8 : w1.cell? ⟨b8, 0, none⟩ = some (.bool true) := (blk_cell H81.out 0).trans rfl; have r8 := blk_frozen H81.out 0)
          clear qb60 qb61 qb62 qb63 qb70 qb71 qb72 qb73 qBx0 qBx1 qBx2 qBx3 rb60 rb61 rb62 rb63 rb70 rb71 rb72 rb73 q8 r8
          gi_wp2
          refine ⟨trivial, ?_⟩
          gi_at_call 150
          have hcall := CallsIn.inRound l (callsIn_wide (n := n - 1 - 1 - 1).2 (spans_value_compare.calls 3 x.1.n x.1.d M.n M.d c' ((((w1.setCell ⟨b6, 0, none⟩ (.int .i64 x.1.x)).setCell ⟨b6, 1, none⟩ (.int .i64 x.1.y)).setCell ⟨b6, 2, none⟩ (.int .i64 x.1.n)).setCell ⟨b6, 3, none⟩ (.int .i64 x.1.d)) HD1.out))
          with_reducible refine hcall.mono ?_
          clear hcall
          rintro e w2 ⟨rfl, hb2⟩
          have HL2_ := Aside0.mk (blk_below (w := put4 w1 b6 x.1) (put4_same x.1 HL1.out) hb2)
          have HM2_ := Aside0.mk (blk_below (w := put4 w1 b6 x.1) (put4_far x.1 HM1.out n76) hb2)
          have HP2_ := Aside0.mk (blk_below (w := put4 w1 b6 x.1) (put4_far x.1 HP1.out nx6) hb2)
          have H82_ := Aside0.mk (blk_below (w := put4 w1 b6 x.1) (put4_far x.1 H81.out n86) hb2)
          have HB2 := Aside0.mk hb2
          clear hb2
          have qb60 : w2.cell? ⟨b6, 0, none⟩ = some (.int .i64 x.1.x) := (blk_cell HL2_.out 0).trans rfl
          have rb60 := blk_frozen HL2_.out 0
          have qb61 : w2.cell? ⟨b6, 1, none⟩ = some (.int .i64 x.1.y) := (blk_cell HL2_.out 1).trans rfl
          have rb61 := blk_frozen HL2_.out 1
          have qb62 : w2.cell? ⟨b6, 2, none⟩ = some (.int .i64 x.1.n) := (blk_cell HL2_.out 2).trans rfl
          have rb62 := blk_frozen HL2_.out 2
          have qb63 : w2.cell? ⟨b6, 3, none⟩ = some (.int .i64 x.1.d) := (blk_cell HL2_.out 3).trans rfl
          have rb63 := blk_frozen HL2_.out 3
          have qb70 : w2.cell? ⟨b7, 0, none⟩ = some (.int .i64 M.x) := (blk_cell HM2_.out 0).trans rfl
          have rb70 := blk_frozen HM2_.out 0
          have qb71 : w2.cell? ⟨b7, 1, none⟩ = some (.int .i64 M.y) := (blk_cell HM2_.out 1).trans rfl
          have rb71 := blk_frozen HM2_.out 1
          have qb72 : w2.cell? ⟨b7, 2, none⟩ = some (.int .i64 M.n) := (blk_cell HM2_.out 2).trans rfl
          have rb72 := blk_frozen HM2_.out 2
          have qb73 : w2.cell? ⟨b7, 3, none⟩ = some (.int .i64 M.d) := (blk_cell HM2_.out 3).trans rfl
          have rb73 := blk_frozen HM2_.out 3
          have qBx0 : w2.cell? ⟨Bx, 0, none⟩ = some (.int .i64 x.1.x) := (blk_cell HP2_.out 0).trans rfl
          have qBx1 : w2.cell? ⟨Bx, 1, none⟩ = some (.int .i64 x.1.y) := (blk_cell HP2_.out 1).trans rfl
          have qBx2 : w2.cell? ⟨Bx, 2, none⟩ = some (.int .i64 x.1.n) := (blk_cell HP2_.out 2).trans rfl
          have qBx3 : w2.cell? ⟨Bx, 3, none⟩ = some (.int .i64 x.1.d) := (blk_cell HP2_.out 3).trans rfl
          have q8 : w2.cell? ⟨b8, 0, none⟩ = some (.bool true) := (blk_cell H82_.out 0).trans rfl
          have r8 := blk_frozen H82_.out 0
          gi_wp2
          have kp1 : KpS w.heap.size (fun k => k = b6 ∨ k = b7 ∨ k = b8) W (put4 w1 b6 x.1) := put4_kp x.1 (KpS.of_below HBl.out.size HB1.out) g6 (.inl rfl)
          have kp2 : KpS w.heap.size (fun k => k = b6 ∨ k = b7 ∨ k = b8) W w2 := kp1.trans (KpS.of_below (by have := kp1.1.size; have := HBl.out.size; omega) HB2.out)
          have ke2 : KeepsOthers W w2 := (((kothers_below HB1.out).trans (put4_keeps w1 b6 x.1)).trans (kothers_below HB2.out))
          change ownPostG _ _ _ _ _ _ _ _ (w2.setCell ⟨b8, 0, none⟩ (.bool true))
          have k6 := blk_far (p := ⟨b8, 0, none⟩) HL2_.out n86' (.bool true)
          have k7 := blk_far (p := ⟨b8, 0, none⟩) HM2_.out n87' (.bool true)
          have k8 := blk_put H82_.out 0 (.bool true) (cs' := #[.bool true]) rfl
          refine ⟨((ke2).trans (KeepsOthers.setCell _ _ _)).from _, KpS.put8 kp2 g8 (.inr (.inr rfl)), ⟨⟨?_, ?_, ?_⟩, ?_⟩⟩
          · rw [HL2.out]; exact k6
          · rw [HM2.out]; exact k7
          · rw [HNE.out]; exact k8
          · exact below_set (HBl.out.trans kp2.1) g8
      · rw [if_neg hl1] at hL2
        have hcc : ¬ c < 0 := fun h => hl1 (hc2.1 h)
        by_cases hm1 : ltP M x.1 = true
        · rw [if_pos hm1] at hM2
          have hdd := hd2.2 hm1
          have HL2 := Aside0.mk hL2
          have HM2 := Aside0.mk hM2
          clear hP hL hM h8 hBl hr hl hLe hMe hls hms hcmp hc1 hc2 hd1 hd2 hL2 hM2 hl1 hm1 g60
          gi_wp2_with (refine ⟨trivial, ?_⟩; gi_at_call 150; have hcall := CallsIn.inRound l (callsIn_wide (n := n - 1 - 1 - 1).2 (spans_value_compare.calls 3 x.1.n x.1.d L.n L.d c W HC1.out)); with_reducible refine hcall.mono ?_; clear hcall; rintro e w1 ⟨rfl, hb1⟩; have HL1 := Aside0.mk (blk_below HL.out hb1); have HM1 := Aside0.mk (blk_below HM.out hb1); have HP1 := Aside0.mk (blk_below HP.out hb1); have H81 := Aside0.mk (blk_below H8.out hb1); have HB1 := Aside0.mk hb1; clear hb1; have qb60 : w1.cell? ⟨b6, 0, none⟩ = some (.int .i64 L.x) := (blk_cell HL1.out 0).trans rfl; have rb60 := blk_frozen HL1.out 0; have qb61 : w1.cell? ⟨b6, 1, none⟩ = some (.int .i64 L.y) := (blk_cell HL1.out 1).trans rfl; have rb61 := blk_frozen HL1.out 1; have qb62 : w1.cell? ⟨b6, 2, none⟩ = some (.int .i64 L.n) := (blk_cell HL1.out 2).trans rfl; have rb62 := blk_frozen HL1.out 2; have qb63 : w1.cell? ⟨b6, 3, none⟩ = some (.int .i64 L.d) := (blk_cell HL1.out 3).trans rfl; have rb63 := blk_frozen HL1.out 3; have qb70 : w1.cell? ⟨b7, 0, none⟩ = some (.int .i64 M.x) := (blk_cell HM1.out 0).trans rfl; have rb70 := blk_frozen HM1.out 0; have qb71 : w1.cell? ⟨b7, 1, none⟩ = some (.int .i64 M.y) := (blk_cell HM1.out 1).trans rfl; have rb71 := blk_frozen HM1.out 1; have qb72 : w1.cell? ⟨b7, 2, none⟩ = some (.int .i64 M.n) := (blk_cell HM1.out 2).trans rfl; have rb72 := blk_frozen HM1.out 2; have qb73 : w1.cell? ⟨b7, 3, none⟩ = some (.int .i64 M.d) := (blk_cell HM1.out 3).trans rfl; have rb73 := blk_frozen HM1.out 3; have qBx0 : w1.cell? ⟨Bx, 0, none⟩ = some (.int .i64 x.1.x) := (blk_cell HP1.out 0).trans rfl; have qBx1 : w1.cell? ⟨Bx, 1, none⟩ = some (.int .i64 x.1.y) := (blk_cell HP1.out 1).trans rfl; have qBx2 : w1.cell? ⟨Bx, 2, none⟩ = some (.int .i64 x.1.n) := (blk_cell HP1.out 2).trans rfl; have qBx3 : w1.cell? ⟨Bx, 3, none⟩ = some (.int .i64 x.1.d) := (blk_cell HP1.out 3).trans rfl; have q8 : w1.cell? ⟨b8, 0, none⟩ = some (.bool true) := (blk_cell H81.out 0).trans rfl; have r8 := blk_frozen H81.out 0)
          clear qb60 qb61 qb62 qb63 qb70 qb71 qb72 qb73 qBx0 qBx1 qBx2 qBx3 rb60 rb61 rb62 rb63 rb70 rb71 rb72 rb73 q8 r8
          gi_wp2_with (refine ⟨trivial, ?_⟩; gi_at_call 150; have hcall := CallsIn.inRound l (callsIn_wide (n := n - 1 - 1 - 1).2 (spans_value_compare.calls 3 x.1.n x.1.d M.n M.d c' w1 HD1.out)); with_reducible refine hcall.mono ?_; clear hcall; rintro e w2 ⟨rfl, hb2⟩; have HL2_ := Aside0.mk (blk_below HL1.out hb2); have HM2_ := Aside0.mk (blk_below HM1.out hb2); have HP2_ := Aside0.mk (blk_below HP1.out hb2); have H82_ := Aside0.mk (blk_below H81.out hb2); have HB2 := Aside0.mk hb2; clear hb2; have qb60 : w2.cell? ⟨b6, 0, none⟩ = some (.int .i64 L.x) := (blk_cell HL2_.out 0).trans rfl; have rb60 := blk_frozen HL2_.out 0; have qb61 : w2.cell? ⟨b6, 1, none⟩ = some (.int .i64 L.y) := (blk_cell HL2_.out 1).trans rfl; have rb61 := blk_frozen HL2_.out 1; have qb62 : w2.cell? ⟨b6, 2, none⟩ = some (.int .i64 L.n) := (blk_cell HL2_.out 2).trans rfl; have rb62 := blk_frozen HL2_.out 2; have qb63 : w2.cell? ⟨b6, 3, none⟩ = some (.int .i64 L.d) := (blk_cell HL2_.out 3).trans rfl; have rb63 := blk_frozen HL2_.out 3; have qb70 : w2.cell? ⟨b7, 0, none⟩ = some (.int .i64 M.x) := (blk_cell HM2_.out 0).trans rfl; have rb70 := blk_frozen HM2_.out 0; have qb71 : w2.cell? ⟨b7, 1, none⟩ = some (.int .i64 M.y) := (blk_cell HM2_.out 1).trans rfl; have rb71 := blk_frozen HM2_.out 1; have qb72 : w2.cell? ⟨b7, 2, none⟩ = some (.int .i64 M.n) := (blk_cell HM2_.out 2).trans rfl; have rb72 := blk_frozen HM2_.out 2; have qb73 : w2.cell? ⟨b7, 3, none⟩ = some (.int .i64 M.d) := (blk_cell HM2_.out 3).trans rfl; have rb73 := blk_frozen HM2_.out 3; have qBx0 : w2.cell? ⟨Bx, 0, none⟩ = some (.int .i64 x.1.x) := (blk_cell HP2_.out 0).trans rfl; have qBx1 : w2.cell? ⟨Bx, 1, none⟩ = some (.int .i64 x.1.y) := (blk_cell HP2_.out 1).trans rfl; have qBx2 : w2.cell? ⟨Bx, 2, none⟩ = some (.int .i64 x.1.n) := (blk_cell HP2_.out 2).trans rfl; have qBx3 : w2.cell? ⟨Bx, 3, none⟩ = some (.int .i64 x.1.d) := (blk_cell HP2_.out 3).trans rfl; have q8 : w2.cell? ⟨b8, 0, none⟩ = some (.bool true) := (blk_cell H82_.out 0).trans rfl; have r8 := blk_frozen H82_.out 0)
          have kp1 : KpS w.heap.size (fun k => k = b6 ∨ k = b7 ∨ k = b8) W w1 := KpS.of_below HBl.out.size HB1.out
          have kp2 : KpS w.heap.size (fun k => k = b6 ∨ k = b7 ∨ k = b8) W w2 := kp1.trans (KpS.of_below (by have := kp1.1.size; have := HBl.out.size; omega) HB2.out)
          have ke2 : KeepsOthers W w2 := ((kothers_below HB1.out).trans (kothers_below HB2.out))
          change ownPostG _ _ _ _ _ _ _ _ ((put4 w2 b7 x.1).setCell ⟨b8, 0, none⟩ (.bool true))
          have k6 := blk_far (p := ⟨b8, 0, none⟩) (put4_far x.1 HL2_.out n67) n86' (.bool true)
          have k7 := blk_far (p := ⟨b8, 0, none⟩) (put4_same x.1 HM2_.out) n87' (.bool true)
          have k8 := blk_put (put4_far x.1 H82_.out n87) 0 (.bool true) (cs' := #[.bool true]) rfl
          refine ⟨((ke2.trans (put4_keeps w2 b7 x.1)).trans (KeepsOthers.setCell _ _ _)).from _, KpS.put8 (put4_kp x.1 kp2 g7 (.inr (.inl rfl))) g8 (.inr (.inr rfl)), ⟨⟨?_, ?_, ?_⟩, ?_⟩⟩
          · rw [HL2.out]; exact k6
          · rw [HM2.out]; exact k7
          · rw [HNE.out]; exact k8
          · exact below_set (put4_below x.1 (HBl.out.trans kp2.1) g7) g8
        · rw [if_neg hm1] at hM2
          have hdd : ¬ c' > 0 := fun h => hm1 (hd2.1 h)
          have HL2 := Aside0.mk hL2
          have HM2 := Aside0.mk hM2
          clear hP hL hM h8 hBl hr hl hLe hMe hls hms hcmp hc1 hc2 hd1 hd2 hL2 hM2 hl1 hm1 g60
          gi_wp2_with (refine ⟨trivial, ?_⟩; gi_at_call 150; have hcall := CallsIn.inRound l (callsIn_wide (n := n - 1 - 1 - 1).2 (spans_value_compare.calls 3 x.1.n x.1.d L.n L.d c W HC1.out)); with_reducible refine hcall.mono ?_; clear hcall; rintro e w1 ⟨rfl, hb1⟩; have HL1 := Aside0.mk (blk_below HL.out hb1); have HM1 := Aside0.mk (blk_below HM.out hb1); have HP1 := Aside0.mk (blk_below HP.out hb1); have H81 := Aside0.mk (blk_below H8.out hb1); have HB1 := Aside0.mk hb1; clear hb1; have qb60 : w1.cell? ⟨b6, 0, none⟩ = some (.int .i64 L.x) := (blk_cell HL1.out 0).trans rfl; have rb60 := blk_frozen HL1.out 0; have qb61 : w1.cell? ⟨b6, 1, none⟩ = some (.int .i64 L.y) := (blk_cell HL1.out 1).trans rfl; have rb61 := blk_frozen HL1.out 1; have qb62 : w1.cell? ⟨b6, 2, none⟩ = some (.int .i64 L.n) := (blk_cell HL1.out 2).trans rfl; have rb62 := blk_frozen HL1.out 2; have qb63 : w1.cell? ⟨b6, 3, none⟩ = some (.int .i64 L.d) := (blk_cell HL1.out 3).trans rfl; have rb63 := blk_frozen HL1.out 3; have qb70 : w1.cell? ⟨b7, 0, none⟩ = some (.int .i64 M.x) := (blk_cell HM1.out 0).trans rfl; have rb70 := blk_frozen HM1.out 0; have qb71 : w1.cell? ⟨b7, 1, none⟩ = some (.int .i64 M.y) := (blk_cell HM1.out 1).trans rfl; have rb71 := blk_frozen HM1.out 1; have qb72 : w1.cell? ⟨b7, 2, none⟩ = some (.int .i64 M.n) := (blk_cell HM1.out 2).trans rfl; have rb72 := blk_frozen HM1.out 2; have qb73 : w1.cell? ⟨b7, 3, none⟩ = some (.int .i64 M.d) := (blk_cell HM1.out 3).trans rfl; have rb73 := blk_frozen HM1.out 3; have qBx0 : w1.cell? ⟨Bx, 0, none⟩ = some (.int .i64 x.1.x) := (blk_cell HP1.out 0).trans rfl; have qBx1 : w1.cell? ⟨Bx, 1, none⟩ = some (.int .i64 x.1.y) := (blk_cell HP1.out 1).trans rfl; have qBx2 : w1.cell? ⟨Bx, 2, none⟩ = some (.int .i64 x.1.n) := (blk_cell HP1.out 2).trans rfl; have qBx3 : w1.cell? ⟨Bx, 3, none⟩ = some (.int .i64 x.1.d) := (blk_cell HP1.out 3).trans rfl; have q8 : w1.cell? ⟨b8, 0, none⟩ = some (.bool true) := (blk_cell H81.out 0).trans rfl; have r8 := blk_frozen H81.out 0)
          clear qb60 qb61 qb62 qb63 qb70 qb71 qb72 qb73 qBx0 qBx1 qBx2 qBx3 rb60 rb61 rb62 rb63 rb70 rb71 rb72 rb73 q8 r8
          gi_wp2_with (refine ⟨trivial, ?_⟩; gi_at_call 150; have hcall := CallsIn.inRound l (callsIn_wide (n := n - 1 - 1 - 1).2 (spans_value_compare.calls 3 x.1.n x.1.d M.n M.d c' w1 HD1.out)); with_reducible refine hcall.mono ?_; clear hcall; rintro e w2 ⟨rfl, hb2⟩; have HL2_ := Aside0.mk (blk_below HL1.out hb2); have HM2_ := Aside0.mk (blk_below HM1.out hb2); have HP2_ := Aside0.mk (blk_below HP1.out hb2); have H82_ := Aside0.mk (blk_below H81.out hb2); have HB2 := Aside0.mk hb2; clear hb2; have qb60 : w2.cell? ⟨b6, 0, none⟩ = some (.int .i64 L.x) := (blk_cell HL2_.out 0).trans rfl; have rb60 := blk_frozen HL2_.out 0; have qb61 : w2.cell? ⟨b6, 1, none⟩ = some (.int .i64 L.y) := (blk_cell HL2_.out 1).trans rfl; have rb61 := blk_frozen HL2_.out 1; have qb62 : w2.cell? ⟨b6, 2, none⟩ = some (.int .i64 L.n) := (blk_cell HL2_.out 2).trans rfl; have rb62 := blk_frozen HL2_.out 2; have qb63 : w2.cell? ⟨b6, 3, none⟩ = some (.int .i64 L.d) := (blk_cell HL2_.out 3).trans rfl; have rb63 := blk_frozen HL2_.out 3; have qb70 : w2.cell? ⟨b7, 0, none⟩ = some (.int .i64 M.x) := (blk_cell HM2_.out 0).trans rfl; have rb70 := blk_frozen HM2_.out 0; have qb71 : w2.cell? ⟨b7, 1, none⟩ = some (.int .i64 M.y) := (blk_cell HM2_.out 1).trans rfl; have rb71 := blk_frozen HM2_.out 1; have qb72 : w2.cell? ⟨b7, 2, none⟩ = some (.int .i64 M.n) := (blk_cell HM2_.out 2).trans rfl; have rb72 := blk_frozen HM2_.out 2; have qb73 : w2.cell? ⟨b7, 3, none⟩ = some (.int .i64 M.d) := (blk_cell HM2_.out 3).trans rfl; have rb73 := blk_frozen HM2_.out 3; have qBx0 : w2.cell? ⟨Bx, 0, none⟩ = some (.int .i64 x.1.x) := (blk_cell HP2_.out 0).trans rfl; have qBx1 : w2.cell? ⟨Bx, 1, none⟩ = some (.int .i64 x.1.y) := (blk_cell HP2_.out 1).trans rfl; have qBx2 : w2.cell? ⟨Bx, 2, none⟩ = some (.int .i64 x.1.n) := (blk_cell HP2_.out 2).trans rfl; have qBx3 : w2.cell? ⟨Bx, 3, none⟩ = some (.int .i64 x.1.d) := (blk_cell HP2_.out 3).trans rfl; have q8 : w2.cell? ⟨b8, 0, none⟩ = some (.bool true) := (blk_cell H82_.out 0).trans rfl; have r8 := blk_frozen H82_.out 0)
          have kp1 : KpS w.heap.size (fun k => k = b6 ∨ k = b7 ∨ k = b8) W w1 := KpS.of_below HBl.out.size HB1.out
          have kp2 : KpS w.heap.size (fun k => k = b6 ∨ k = b7 ∨ k = b8) W w2 := kp1.trans (KpS.of_below (by have := kp1.1.size; have := HBl.out.size; omega) HB2.out)
          have ke2 : KeepsOthers W w2 := ((kothers_below HB1.out).trans (kothers_below HB2.out))
          change ownPostG _ _ _ _ _ _ _ _ (w2.setCell ⟨b8, 0, none⟩ (.bool true))
          have k6 := blk_far (p := ⟨b8, 0, none⟩) HL2_.out n86' (.bool true)
          have k7 := blk_far (p := ⟨b8, 0, none⟩) HM2_.out n87' (.bool true)
          have k8 := blk_put H82_.out 0 (.bool true) (cs' := #[.bool true]) rfl
          refine ⟨((ke2).trans (KeepsOthers.setCell _ _ _)).from _, KpS.put8 kp2 g8 (.inr (.inr rfl)), ⟨⟨?_, ?_, ?_⟩, ?_⟩⟩
          · rw [HL2.out]; exact k6
          · rw [HM2.out]; exact k7
          · rw [HNE.out]; exact k8
          · exact below_set (HBl.out.trans kp2.1) g8
  case done =>
    rintro D zs W hD rfl ⟨⟨hL, hM, _⟩, hBl⟩ hK
    obtain ⟨L, hLe⟩ : ∃ L, leastP (vals (gridG (stopsL X a0 a1) (stopsL Y b0 b1) (fG X Y V))) = L := ⟨_, rfl⟩
    obtain ⟨M, hMe⟩ : ∃ M, mostP (vals (gridG (stopsL X a0 a1) (stopsL Y b0 b1) (fG X Y V))) = M := ⟨_, rfl⟩
    rw [hLe] at hL
    rw [hMe] at hM
    have HLe := Aside0.mk hLe
    have HMe := Aside0.mk hMe
    clear hLe hMe
    have HL := Aside0.mk hL
    have HM := Aside0.mk hM
    have HBl := Aside0.mk hBl
    have HKD := Aside0.mk hK
    have HD := Aside0.mk hD
    have c60 : W.cell? ⟨b6, 0, none⟩ = some (.int .i64 L.x) := (blk_cell hL 0).trans rfl
    have c61 : W.cell? ⟨b6, 1, none⟩ = some (.int .i64 L.y) := (blk_cell hL 1).trans rfl
    have c62 : W.cell? ⟨b6, 2, none⟩ = some (.int .i64 L.n) := (blk_cell hL 2).trans rfl
    have c63 : W.cell? ⟨b6, 3, none⟩ = some (.int .i64 L.d) := (blk_cell hL 3).trans rfl
    have c70 : W.cell? ⟨b7, 0, none⟩ = some (.int .i64 M.x) := (blk_cell hM 0).trans rfl
    have c71 : W.cell? ⟨b7, 1, none⟩ = some (.int .i64 M.y) := (blk_cell hM 1).trans rfl
    have c72 : W.cell? ⟨b7, 2, none⟩ = some (.int .i64 M.n) := (blk_cell hM 2).trans rfl
    have c73 : W.cell? ⟨b7, 3, none⟩ = some (.int .i64 M.d) := (blk_cell hM 3).trans rfl
    have n67 : ¬ (b6 = b7) := by have := HO.out; omega
    have n76 : ¬ (b7 = b6) := by have := HO.out; omega
    have f60 := blk_frozen hL 0
    have f61 := blk_frozen hL 1
    have f62 := blk_frozen hL 2
    have f63 := blk_frozen hL 3
    have f70 := blk_frozen hM 0
    have f71 := blk_frozen hM 1
    have f72 := blk_frozen hM 2
    have f73 := blk_frozen hM 3
    clear hL hM hBl hK hD
    gi_wp2
    gi_region
    all_goals gi_wp2
    change bodyPostM Fence.wide n Try.prog Try.f89 _ .ret _ (put4 (put4 W b6 L) b7 M).drew
    have hK' : (put4 (put4 W b6 L) b7 M).heap[D]? = some (.deferred (some [])) := (((put4_keeps W b6 L).trans (put4_keeps _ b7 M)).same D _ HKD.out rfl)
    have hKd : (put4 (put4 W b6 L) b7 M).drew.heap[D]? = some (.deferred (some [])) := blk_drew hK'
    refine ⟨by simp, .inl ⟨_, _, rfl, run_takeDeferred hKd, ?_⟩⟩
    have k6 := blk_drew (put4_far M (put4_same L HL.out) n67)
    have k7 := blk_drew (put4_same M (put4_far L HM.out n76))
    have q6 := blk_grown (w := (put4 (put4 W b6 L) b7 M).drew) (w1 := (put4 (put4 W b6 L) b7 M).drew.putObj D (.deferred none)) (row := some D) k6 (grownBy_putObj' _ D (.deferred none)) (fun e => by cases e; rw [hKd] at k6; cases k6)
    have q7 := blk_grown (w := (put4 (put4 W b6 L) b7 M).drew) (w1 := (put4 (put4 W b6 L) b7 M).drew.putObj D (.deferred none)) (row := some D) k7 (grownBy_putObj' _ D (.deferred none)) (fun e => by cases e; rw [hKd] at k7; cases k7)
    have hb4 : Below w.heap.size w (put4 (put4 W b6 L) b7 M).drew := below_drew (put4_below M (put4_below L HBl.out (by have := HO.out; omega)) (by have := HO.out; omega))
    refine ⟨_, results_cc (p := 6) (p' := 7) (ty := 133) (ty' := 133) rfl _ _ b6 b7 133 133 _ _ (0, 0) (0, 0) _ _ rfl q6 rfl rfl rfl rfl q7 rfl rfl rfl, ⟨?_, ?_⟩⟩
    · rw [HLe.out, HMe.out]
    · exact hb4.trans (belowK_b HB.out.size _ D (.deferred (some [])) (.deferred none) HD.out hKd rfl rfl)
  case stop =>
    rintro D c pre W _ _ h _
    exact h.elim
end Go.Proofs.Yteodlmgmmpkpoaa.PS
end
section
namespace Go.Proofs.Yteodlmgmmpkpoaa.PS
open Go.RowKit Go.Shelf Go.Proofs.YteodlmgmmpkpoaaW.PrintWords Go.Proofs.YteodlmgmmpkpoaaW.PrintLast Go.Proofs.YteodlmgmmpkpoaaW.PrintMore
set_option linter.unusedVariables false
theorem vals_grid (xs ys : List Int) (f : Int → Int → GP) (g : Int → Int → Pt) (h : ∀ x ∈ xs, ∀ y ∈ ys, (f x y).1 = g x y) : vals (gridG xs ys f) = gridL xs ys g := by
  unfold vals gridG gridL
  induction xs with
  | nil => rfl
  | cons a l ih =>
    rw [List.flatMap_cons, List.flatMap_cons, List.map_append, ih (fun x hx => h x (List.mem_cons_of_mem _ hx)), List.map_map]
    congr 1
    exact List.map_congr_left fun y hy => h a (List.mem_cons_self) y hy
theorem pts_vals {X Y : List Int} {V : List (List Int)} {a0 a1 b0 b1 : Int} (ht : tableB X Y V = true) (hxon : onB X a0 a1 = true) (hyon : onB Y b0 b1 = true) (hxle : a0 ≤ a1) (hyle : b0 ≤ b1) :
    vals (gridG (stopsL X a0 a1) (stopsL Y b0 b1) (fG X Y V)) = ptsL X Y V a0 a1 b0 b1 :=
  vals_grid _ _ _ _ fun x hx y hy => fG_val (tb_of ht) (stops_on hxon hxle hx).1 (stops_on hyon hyle hy).1
theorem spans_extremes.calls (A0_0 : Option Addr) (c0_0 : Nat) (l0_0 : List Int) (A0_1 : Option Addr) (c0_1 : Nat) (l0_1 : List Int) (A0_2 : Option Addr) (c0_2 : Nat) (l0_2 : List (List Int)) (a1_0 : Int) (a1_1 : Int) (a2_0 : Int) (a2_1 : Int) (r1 : Int) (r2 : Int) (r3 : Int) (r4 : Int) (r5 : Int) (r6 : Int) (r7 : Int) (r8 : Int) (w : World) (hr0_0 : Kd.C (Kd.int .i64) w A0_0 l0_0.length l0_0) (hc0_0 : l0_0.length ≤ c0_0) (hr0_1 : Kd.C (Kd.int .i64) w A0_1 l0_1.length l0_1) (hc0_1 : l0_1.length ≤ c0_1) (hr0_2 : Kd.C (Kd.slice 3 (Kd.int .i64)) w A0_2 l0_2.length l0_2) (hc0_2 : l0_2.length ≤ c0_2) (h : spans_extremes.f l0_0 l0_1 l0_2 a1_0 a1_1 a2_0 a2_1 = some (r1, r2, r3, r4, r5, r6, r7, r8)) :
    Calls Try.prog 89 #[.agg #[.slice A0_0 l0_0.length c0_0, .slice A0_1 l0_1.length c0_1, .slice A0_2 l0_2.length c0_2], .agg #[.int .i64 a1_0, .int .i64 a1_1], .agg #[.int .i64 a2_0, .int .i64 a2_1]] w fun e w' => e = .returned (.tuple #[.agg #[.int .i64 r1, .int .i64 r2, .int .i64 r3, .int .i64 r4], .agg #[.int .i64 r5, .int .i64 r6, .int .i64 r7, .int .i64 r8]]) ∧ Below w.heap.size w w' := by
  unfold spans_extremes.f at h
  by_cases hp : pointsB l0_0 l0_1 l0_2 a1_0 a1_1 a2_0 a2_1 = true
  · rw [if_pos hp] at h
    have hpb := hp
    unfold pointsB at hpb
    simp only [Bool.and_eq_true] at hpb
    obtain ⟨⟨ht, ho0, ho1⟩, hx, hy⟩ := hpb
    have hc := callsIn_wide.1 (extremes_in 6 (Nat.le_refl _) A0_0 c0_0 A0_1 c0_1 A0_2 c0_2 l0_0 l0_1 l0_2 a1_0 a1_1 a2_0 a2_1 ht hx hy (okS_le ho0) (okS_le ho1) w hr0_0 hc0_0 hr0_1 hc0_1 hr0_2 hc0_2)
    rw [pts_vals ht hx hy (okS_le ho0) (okS_le ho1)] at hc
    simp only [Option.some.injEq, Prod.mk.injEq] at h
    obtain ⟨rfl, rfl, rfl, rfl, rfl, rfl, rfl, rfl⟩ := h
    exact hc
  · rw [if_neg hp] at h
    cases h
end Go.Proofs.Yteodlmgmmpkpoaa.PS
end
section
namespace Go.Proofs.Yteodlmgmmpkpoaa.PS
open Go.RowKit Go.Proofs.YteodlmgmmpkpoaaW.PrintWords Go.Proofs.YteodlmgmmpkpoaaW.PrintLast Go.Proofs.YteodlmgmmpkpoaaW.PrintMore
attribute [local go_sem] max2_int min2_int max_two min_two max_three min_three max_four min_four   -- for this text's walks alone
set_option linter.unusedVariables false
set_option linter.unusedSimpArgs false
def spans_Bound.f (l0_0 : List Int) (l0_1 : List Int) (l0_2 : List (List Int)) (a1_0 : Int) (a1_1 : Int) (a2_0 : Int) (a2_1 : Int) : Option (Int × Int × Int) := (spans_checkPoints.f l0_0 l0_1 l0_2 a1_0 a1_1 a2_0 a2_1).bind fun t242 => (if t242 = 0 then ((spans_extremes.f l0_0 l0_1 l0_2 a1_0 a1_1 a2_0 a2_1).bind fun bt243 => ((spans_floor.f bt243.2.2.1 bt243.2.2.2.1).bind fun t253 => ((spans_value_up.f bt243.2.2.2.2.2.2.1 bt243.2.2.2.2.2.2.2).bind fun t254 => (some (t253, t254, 0))))) else (some (0, 0, t242)))
def spans_Bound.T5 : Bool × List (List Nat × List Nat) := (true, [([], []), ([0], [0]), ([1], [1]), ([], []), ([3], [3]), ([4], [4]), ([2, 5], [2, 5]), ([], []), ([7], [7]), ([8, 6], [8]), ([6, 9], [6, 9]), ([10, 9, 0, 1, 2, 3, 4, 5, 6, 7, 8, 9, 10], [10]), ([11, 0, 1, 2, 3, 4, 5, 6, 7, 8, 9, 10, 11], [])])
def spans_Bound.B5 : List Nat := [0, 1, 3, 0, 8, 24, 63, 0, 128, 511, 1023, 2047, 4095]
theorem spans_Bound.tab5 : rtab .any (opsOf Try.f30 5) = spans_Bound.T5 := by kernel_rfl
theorem spans_Bound.bits5 : waitsOk spans_Bound.T5.2 spans_Bound.B5 = true := by kernel_rfl
set_option maxHeartbeats 8000000 in
set_option maxRecDepth 100000 in
theorem spans_Bound.calls (A0_0 : Option Addr) (c0_0 : Nat) (l0_0 : List Int) (A0_1 : Option Addr) (c0_1 : Nat) (l0_1 : List Int) (A0_2 : Option Addr) (c0_2 : Nat) (l0_2 : List (List Int)) (a1_0 : Int) (a1_1 : Int) (a2_0 : Int) (a2_1 : Int) (r1 : Int) (r2 : Int) (r3 : Int) (w : World) (hr0_0 : Kd.C (Kd.int .i64) w A0_0 l0_0.length l0_0) (hc0_0 : l0_0.length ≤ c0_0) (hr0_1 : Kd.C (Kd.int .i64) w A0_1 l0_1.length l0_1) (hc0_1 : l0_1.length ≤ c0_1) (hr0_2 : Kd.C (Kd.slice 3 (Kd.int .i64)) w A0_2 l0_2.length l0_2) (hc0_2 : l0_2.length ≤ c0_2) (h : spans_Bound.f l0_0 l0_1 l0_2 a1_0 a1_1 a2_0 a2_1 = some (r1, r2, r3)) :
  Calls Try.prog 30 #[.agg #[.slice A0_0 l0_0.length c0_0, .slice A0_1 l0_1.length c0_1, .slice A0_2 l0_2.length c0_2], .agg #[.int .i64 a1_0, .int .i64 a1_1], .agg #[.int .i64 a2_0, .int .i64 a2_1]] w fun e w' => e = .returned (.tuple #[.agg #[.int .i64 r1, .int .i64 r2], .int .i64 r3]) ∧ Below w.heap.size w w' := by
 have hu25 := Try.underlying25
 have hu27 := Try.underlying27
 have hu133 := Try.underlying133
 have hu131 := Try.underlying131
 have HR0_0 := Aside0.mk hr0_0
 have HC0_0 := Aside0.mk hc0_0
 clear hr0_0 hc0_0
 have HR0_1 := Aside0.mk hr0_1
 have HC0_1 := Aside0.mk hc0_1
 clear hr0_1 hc0_1
 have HR0_2 := Aside0.mk hr0_2
 have HC0_2 := Aside0.mk hc0_2
 clear hr0_2 hc0_2
 have HB := Aside0.mk (Below.refl w.heap.size w)
 have H : ((spans_checkPoints.f l0_0 l0_1 l0_2 a1_0 a1_1 a2_0 a2_1).bind fun t242 => (if t242 = 0 then ((spans_extremes.f l0_0 l0_1 l0_2 a1_0 a1_1 a2_0 a2_1).bind fun bt243 => ((spans_floor.f bt243.2.2.1 bt243.2.2.2.1).bind fun t253 => ((spans_value_up.f bt243.2.2.2.2.2.2.1 bt243.2.2.2.2.2.2.2).bind fun t254 => (some (t253, t254, 0))))) else (some (0, 0, t242)))) = some (r1, r2, r3) := h
 clear h
 replace H := Option.bind_eq_some_iff.mp H
 obtain ⟨t242, A40, H⟩ := H
 replace H : (if t242 = 0 then ((spans_extremes.f l0_0 l0_1 l0_2 a1_0 a1_1 a2_0 a2_1).bind fun bt243 => ((spans_floor.f bt243.2.2.1 bt243.2.2.2.1).bind fun t253 => ((spans_value_up.f bt243.2.2.2.2.2.2.1 bt243.2.2.2.2.2.2.2).bind fun t254 => (some (t253, t254, 0))))) else (some (0, 0, t242))) = some (r1, r2, r3) := H
 have A4 := Aside0.mk A40
 clear A40
 by_cases c5 : t242 = 0
 ·
  rw [if_pos c5] at H
  have c5b0 : (t242 == 0) = true := beq_iff_eq.mpr c5
  have c5b1 : (t242 != 0) = false := bne_eq_false_iff_eq.mpr c5
  clear c5
  replace H := Option.bind_eq_some_iff.mp H
  obtain ⟨⟨t243, t244, t245, t246, t247, t248, t249, t250⟩, A60, H⟩ := H
  replace H : ((spans_floor.f t245 t246).bind fun t253 => ((spans_value_up.f t249 t250).bind fun t254 => (some (t253, t254, 0)))) = some (r1, r2, r3) := H
  have A6 := Aside0.mk A60
  clear A60
  replace H := Option.bind_eq_some_iff.mp H
  obtain ⟨t253, A70, H⟩ := H
  replace H : ((spans_value_up.f t249 t250).bind fun t254 => (some (t253, t254, 0))) = some (r1, r2, r3) := H
  have A7 := Aside0.mk A70
  clear A70
  replace H := Option.bind_eq_some_iff.mp H
  obtain ⟨t254, A80, H⟩ := H
  replace H : (some (t253, t254, 0)) = some (r1, r2, r3) := H
  have A8 := Aside0.mk A80
  clear A80
  simp only [Option.some.injEq, Prod.mk.injEq] at H
  obtain ⟨rfl, rfl, rfl⟩ := H
  go_enter Try.func30, Try.ntmps30
  try go_wp2_with (first | ((with_reducible refine gate_dst (N := 3) rfl ?_); refine box_event ?hg (N := 3) ?hd (cs := #[.slice A0_0 l0_0.length c0_0, .slice A0_1 l0_1.length c0_1, .slice A0_2 l0_2.length c0_2]) (t := 25) ?hr ?_; (case hd => rfl); (case hg => rfl); (case hr => first | (go_simp; done) | (go_simp; rfl)); intro gb238 hg w9 hbox hb; have n0_ := Aside0.mk (below_step (bl_ HB.out) hb); have n1_ := Aside0.mk (hbox); have n2_ := Aside0.mk (szl_ hg HB.out); have n3_ := Aside0.mk (szl_ hg HB.out); clear HB; have HB := n0_; have BK238 := n1_; have GW238 := n2_; have GE238 := n3_; clear n0_ n1_ n2_ n3_ hb hbox hg) | ((with_reducible refine gate_dst (N := 4) rfl ?_); refine box_event ?hg (N := 4) ?hd (cs := #[.int .i64 a1_0, .int .i64 a1_1]) (t := 27) ?hr ?_; (case hd => rfl); (case hg => rfl); (case hr => first | (go_simp; done) | (go_simp; rfl)); intro gb239 hg w10 hbox hb; have n0_ := Aside0.mk (blk_below (bk_ BK238.out) hb); have n1_ := Aside0.mk (below_step (bl_ HB.out) hb); have n2_ := Aside0.mk (hbox); have n3_ := Aside0.mk (szl_ hg HB.out); have n4_ := Aside0.mk (szl_ hg HB.out); have n5_ := Aside0.mk (nel_ hg BK238.out); have n6_ := Aside0.mk (ner_ hg BK238.out); clear BK238 HB; have BK238 := n0_; have HB := n1_; have BK239 := n2_; have GW239 := n3_; have GE239 := n4_; have NB238_239 := n5_; have NB239_238 := n6_; clear n0_ n1_ n2_ n3_ n4_ n5_ n6_ hb hbox hg) | ((with_reducible refine gate_dst (N := 5) rfl ?_); refine box_event ?hg (N := 5) ?hd (cs := #[.int .i64 a2_0, .int .i64 a2_1]) (t := 27) ?hr ?_; (case hd => rfl); (case hg => rfl); (case hr => first | (go_simp; done) | (go_simp; rfl)); intro gb240 hg w11 hbox hb; have n0_ := Aside0.mk (blk_below (bk_ BK238.out) hb); have n1_ := Aside0.mk (blk_below (bk_ BK239.out) hb); have n2_ := Aside0.mk (below_step (bl_ HB.out) hb); have n3_ := Aside0.mk (hbox); have n4_ := Aside0.mk (szl_ hg HB.out); have n5_ := Aside0.mk (szl_ hg HB.out); have n6_ := Aside0.mk (nel_ hg BK238.out); have n7_ := Aside0.mk (ner_ hg BK238.out); have n8_ := Aside0.mk (nel_ hg BK239.out); have n9_ := Aside0.mk (ner_ hg BK239.out); clear BK238 BK239 HB; have BK238 := n0_; have BK239 := n1_; have HB := n2_; have BK240 := n3_; have GW240 := n4_; have GE240 := n5_; have NB238_240 := n6_; have NB240_238 := n7_; have NB239_240 := n8_; have NB240_239 := n9_; clear n0_ n1_ n2_ n3_ n4_ n5_ n6_ n7_ n8_ n9_ hb hbox hg) | ((with_reducible refine gate_dst (N := 6) rfl ?_); refine box_event ?hg (N := 6) ?hd (cs := #[.int .i64 0, .int .i64 0]) (t := 27) ?hr ?_; (case hd => rfl); (case hg => rfl); (case hr => first | (go_simp; done) | (go_simp; rfl)); intro gb241 hg w12 hbox hb; have n0_ := Aside0.mk (blk_below (bk_ BK238.out) hb); have n1_ := Aside0.mk (blk_below (bk_ BK239.out) hb); have n2_ := Aside0.mk (blk_below (bk_ BK240.out) hb); have n3_ := Aside0.mk (below_step (bl_ HB.out) hb); have n4_ := Aside0.mk (hbox); have n5_ := Aside0.mk (szl_ hg HB.out); have n6_ := Aside0.mk (szl_ hg HB.out); have n7_ := Aside0.mk (nel_ hg BK238.out); have n8_ := Aside0.mk (ner_ hg BK238.out); have n9_ := Aside0.mk (nel_ hg BK239.out); have n10_ := Aside0.mk (ner_ hg BK239.out); have n11_ := Aside0.mk (nel_ hg BK240.out); have n12_ := Aside0.mk (ner_ hg BK240.out); clear BK238 BK239 BK240 HB; have BK238 := n0_; have BK239 := n1_; have BK240 := n2_; have HB := n3_; have BK241 := n4_; have GW241 := n5_; have GE241 := n6_; have NB238_241 := n7_; have NB241_238 := n8_; have NB239_241 := n9_; have NB241_239 := n10_; have NB240_241 := n11_; have NB241_240 := n12_; clear n0_ n1_ n2_ n3_ n4_ n5_ n6_ n7_ n8_ n9_ n10_ n11_ n12_ hb hbox hg; have hnb13 := NB238_239.out; have hnc13 := NB239_238.out; have hnb14 := NB238_240.out; have hnc14 := NB240_238.out; have hnb15 := NB238_241.out; have hnc15 := NB241_238.out; have hcz16_0 : w12.cell? ⟨gb238, 0, none⟩ = some (.slice A0_0 l0_0.length c0_0) := (blk_cell BK238.out 0).trans rfl; have hcz16_1 : w12.cell? ⟨gb238, 1, none⟩ = some (.slice A0_1 l0_1.length c0_1) := (blk_cell BK238.out 1).trans rfl; have hcz16_2 : w12.cell? ⟨gb238, 2, none⟩ = some (.slice A0_2 l0_2.length c0_2) := (blk_cell BK238.out 2).trans rfl; have hfz16_0 := blk_frozen BK238.out 0; have hfz16_1 := blk_frozen BK238.out 1; have hfz16_2 := blk_frozen BK238.out 2; have hnb17 := NB239_240.out; have hnc17 := NB240_239.out; have hnb18 := NB239_241.out; have hnc18 := NB241_239.out; have hcz19_0 : w12.cell? ⟨gb239, 0, none⟩ = some (.int .i64 a1_0) := (blk_cell BK239.out 0).trans rfl; have hcz19_1 : w12.cell? ⟨gb239, 1, none⟩ = some (.int .i64 a1_1) := (blk_cell BK239.out 1).trans rfl; have hfz19_0 := blk_frozen BK239.out 0; have hfz19_1 := blk_frozen BK239.out 1; have hnb20 := NB240_241.out; have hnc20 := NB241_240.out; have hcz21_0 : w12.cell? ⟨gb240, 0, none⟩ = some (.int .i64 a2_0) := (blk_cell BK240.out 0).trans rfl; have hcz21_1 : w12.cell? ⟨gb240, 1, none⟩ = some (.int .i64 a2_1) := (blk_cell BK240.out 1).trans rfl; have hfz21_0 := blk_frozen BK240.out 0; have hfz21_1 := blk_frozen BK240.out 1) | ((with_reducible refine gate_callee (f := 88) rfl ?_); refine goesL_ (some 14) rfl rfl Try.func88 (by kernel_rfl) rfl #[.agg #[.slice A0_0 l0_0.length c0_0, .slice A0_1 l0_1.length c0_1, .slice A0_2 l0_2.length c0_2], .agg #[.int .i64 a1_0, .int .i64 a1_1], .agg #[.int .i64 a2_0, .int .i64 a2_1]] rfl (by (try simp only [List.map_toArray, List.map_cons, List.map_nil]); first | done | rfl | (simp only [List.length_drop, List.length_take]; rfl)) ?_; (with_reducible refine (spans_checkPoints.calls _ _ l0_0 _ _ l0_1 _ _ l0_2 a1_0 a1_1 a2_0 a2_1 t242 _ ?side1 ?side2 ?side3 ?side4 ?side5 ?side6 A4.out).mono ?_); (case side1 => exact cr_ (Kd.C_below HR0_0.out HB.out)); (case side2 => exact HC0_0.out); (case side3 => exact cr_ (Kd.C_below HR0_1.out HB.out)); (case side4 => exact HC0_1.out); (case side5 => exact cr_ (Kd.C_below HR0_2.out HB.out)); (case side6 => exact HC0_2.out); rintro e w22 ⟨rfl, hb⟩; refine ⟨_, rfl, ?_⟩; have n0_ := Aside0.mk (blk_below (bk_ BK238.out) hb); have n1_ := Aside0.mk (blk_below (bk_ BK239.out) hb); have n2_ := Aside0.mk (blk_below (bk_ BK240.out) hb); have n3_ := Aside0.mk (blk_below (bk_ BK241.out) hb); have n4_ := Aside0.mk (below_step (bl_ HB.out) hb); clear BK238 BK239 BK240 BK241 HB; have BK238 := n0_; have BK239 := n1_; have BK240 := n2_; have BK241 := n3_; have HB := n4_; clear n0_ n1_ n2_ n3_ n4_; (try clear hb); (try clear hb2); (try clear hk); (try clear hi); have hcz23_0 : w22.cell? ⟨gb238, 0, none⟩ = some (.slice A0_0 l0_0.length c0_0) := (blk_cell BK238.out 0).trans rfl; have hcz23_1 : w22.cell? ⟨gb238, 1, none⟩ = some (.slice A0_1 l0_1.length c0_1) := (blk_cell BK238.out 1).trans rfl; have hcz23_2 : w22.cell? ⟨gb238, 2, none⟩ = some (.slice A0_2 l0_2.length c0_2) := (blk_cell BK238.out 2).trans rfl; have hfz23_0 := blk_frozen BK238.out 0; have hfz23_1 := blk_frozen BK238.out 1; have hfz23_2 := blk_frozen BK238.out 2; have hcz24_0 : w22.cell? ⟨gb239, 0, none⟩ = some (.int .i64 a1_0) := (blk_cell BK239.out 0).trans rfl; have hcz24_1 : w22.cell? ⟨gb239, 1, none⟩ = some (.int .i64 a1_1) := (blk_cell BK239.out 1).trans rfl; have hfz24_0 := blk_frozen BK239.out 0; have hfz24_1 := blk_frozen BK239.out 1; have hcz25_0 : w22.cell? ⟨gb240, 0, none⟩ = some (.int .i64 a2_0) := (blk_cell BK240.out 0).trans rfl; have hcz25_1 : w22.cell? ⟨gb240, 1, none⟩ = some (.int .i64 a2_1) := (blk_cell BK240.out 1).trans rfl; have hfz25_0 := blk_frozen BK240.out 0; have hfz25_1 := blk_frozen BK240.out 1) | ((with_reducible refine gate_callee (f := 89) rfl ?_); refine goesL_ (some 23) rfl rfl Try.func89 (by kernel_rfl) rfl #[.agg #[.slice A0_0 l0_0.length c0_0, .slice A0_1 l0_1.length c0_1, .slice A0_2 l0_2.length c0_2], .agg #[.int .i64 a1_0, .int .i64 a1_1], .agg #[.int .i64 a2_0, .int .i64 a2_1]] rfl (by (try simp only [List.map_toArray, List.map_cons, List.map_nil]); first | done | rfl | (simp only [List.length_drop, List.length_take]; rfl)) ?_; (with_reducible refine (spans_extremes.calls _ _ l0_0 _ _ l0_1 _ _ l0_2 a1_0 a1_1 a2_0 a2_1 t243 t244 t245 t246 t247 t248 t249 t250 _ ?side1 ?side2 ?side3 ?side4 ?side5 ?side6 A6.out).mono ?_); (case side1 => exact cr_ (Kd.C_below HR0_0.out HB.out)); (case side2 => exact HC0_0.out); (case side3 => exact cr_ (Kd.C_below HR0_1.out HB.out)); (case side4 => exact HC0_1.out); (case side5 => exact cr_ (Kd.C_below HR0_2.out HB.out)); (case side6 => exact HC0_2.out); rintro e w26 ⟨rfl, hb⟩; refine ⟨_, rfl, ?_⟩; have n0_ := Aside0.mk (blk_below (bk_ BK238.out) hb); have n1_ := Aside0.mk (blk_below (bk_ BK239.out) hb); have n2_ := Aside0.mk (blk_below (bk_ BK240.out) hb); have n3_ := Aside0.mk (blk_below (bk_ BK241.out) hb); have n4_ := Aside0.mk (below_step (bl_ HB.out) hb); clear BK238 BK239 BK240 BK241 HB; have BK238 := n0_; have BK239 := n1_; have BK240 := n2_; have BK241 := n3_; have HB := n4_; clear n0_ n1_ n2_ n3_ n4_; (try clear hb); (try clear hb2); (try clear hk); (try clear hi)) | ((with_reducible refine gate_dst (N := 9) rfl ?_); refine box_event ?hg (N := 9) ?hd (cs := #[.int .i64 0, .int .i64 0, .int .i64 0, .int .i64 0]) (t := 133) ?hr ?_; (case hd => rfl); (case hg => rfl); (case hr => first | (go_simp; done) | (go_simp; rfl)); intro gb251 hg w27 hbox hb; have n0_ := Aside0.mk (blk_below (bk_ BK238.out) hb); have n1_ := Aside0.mk (blk_below (bk_ BK239.out) hb); have n2_ := Aside0.mk (blk_below (bk_ BK240.out) hb); have n3_ := Aside0.mk (blk_below (bk_ BK241.out) hb); have n4_ := Aside0.mk (below_step (bl_ HB.out) hb); have n5_ := Aside0.mk (hbox); have n6_ := Aside0.mk (szl_ hg HB.out); have n7_ := Aside0.mk (szl_ hg HB.out); have n8_ := Aside0.mk (nel_ hg BK238.out); have n9_ := Aside0.mk (ner_ hg BK238.out); have n10_ := Aside0.mk (nel_ hg BK239.out); have n11_ := Aside0.mk (ner_ hg BK239.out); have n12_ := Aside0.mk (nel_ hg BK240.out); have n13_ := Aside0.mk (ner_ hg BK240.out); have n14_ := Aside0.mk (nel_ hg BK241.out); have n15_ := Aside0.mk (ner_ hg BK241.out); clear BK238 BK239 BK240 BK241 HB; have BK238 := n0_; have BK239 := n1_; have BK240 := n2_; have BK241 := n3_; have HB := n4_; have BK251 := n5_; have GW251 := n6_; have GE251 := n7_; have NB238_251 := n8_; have NB251_238 := n9_; have NB239_251 := n10_; have NB251_239 := n11_; have NB240_251 := n12_; have NB251_240 := n13_; have NB241_251 := n14_; have NB251_241 := n15_; clear n0_ n1_ n2_ n3_ n4_ n5_ n6_ n7_ n8_ n9_ n10_ n11_ n12_ n13_ n14_ n15_ hb hbox hg) | ((with_reducible refine gate_dst (N := 10) rfl ?_); refine box_event ?hg (N := 10) ?hd (cs := #[.int .i64 0, .int .i64 0, .int .i64 0, .int .i64 0]) (t := 133) ?hr ?_; (case hd => rfl); (case hg => rfl); (case hr => first | (go_simp; done) | (go_simp; rfl)); intro gb252 hg w28 hbox hb; have n0_ := Aside0.mk (blk_below (bk_ BK238.out) hb); have n1_ := Aside0.mk (blk_below (bk_ BK239.out) hb); have n2_ := Aside0.mk (blk_below (bk_ BK240.out) hb); have n3_ := Aside0.mk (blk_below (bk_ BK241.out) hb); have n4_ := Aside0.mk (blk_below (bk_ BK251.out) hb); have n5_ := Aside0.mk (below_step (bl_ HB.out) hb); have n6_ := Aside0.mk (hbox); have n7_ := Aside0.mk (szl_ hg HB.out); have n8_ := Aside0.mk (szl_ hg HB.out); have n9_ := Aside0.mk (nel_ hg BK238.out); have n10_ := Aside0.mk (ner_ hg BK238.out); have n11_ := Aside0.mk (nel_ hg BK239.out); have n12_ := Aside0.mk (ner_ hg BK239.out); have n13_ := Aside0.mk (nel_ hg BK240.out); have n14_ := Aside0.mk (ner_ hg BK240.out); have n15_ := Aside0.mk (nel_ hg BK241.out); have n16_ := Aside0.mk (ner_ hg BK241.out); have n17_ := Aside0.mk (nel_ hg BK251.out); have n18_ := Aside0.mk (ner_ hg BK251.out); clear BK238 BK239 BK240 BK241 BK251 HB; have BK238 := n0_; have BK239 := n1_; have BK240 := n2_; have BK241 := n3_; have BK251 := n4_; have HB := n5_; have BK252 := n6_; have GW252 := n7_; have GE252 := n8_; have NB238_252 := n9_; have NB252_238 := n10_; have NB239_252 := n11_; have NB252_239 := n12_; have NB240_252 := n13_; have NB252_240 := n14_; have NB241_252 := n15_; have NB252_241 := n16_; have NB251_252 := n17_; have NB252_251 := n18_; clear n0_ n1_ n2_ n3_ n4_ n5_ n6_ n7_ n8_ n9_ n10_ n11_ n12_ n13_ n14_ n15_ n16_ n17_ n18_ hb hbox hg; have hnb29 := NB251_238.out; have hnc29 := NB238_251.out; have hnb30 := NB251_239.out; have hnc30 := NB239_251.out; have hnb31 := NB251_240.out; have hnc31 := NB240_251.out; have hnb32 := NB251_241.out; have hnc32 := NB241_251.out; have hnb33 := NB251_252.out; have hnc33 := NB252_251.out; have hcz34_0 : w28.cell? ⟨gb251, 0, none⟩ = some (.int .i64 0) := (blk_cell BK251.out 0).trans rfl; have hcz34_1 : w28.cell? ⟨gb251, 1, none⟩ = some (.int .i64 0) := (blk_cell BK251.out 1).trans rfl; have hcz34_2 : w28.cell? ⟨gb251, 2, none⟩ = some (.int .i64 0) := (blk_cell BK251.out 2).trans rfl; have hcz34_3 : w28.cell? ⟨gb251, 3, none⟩ = some (.int .i64 0) := (blk_cell BK251.out 3).trans rfl; have hfz34_0 := blk_frozen BK251.out 0; have hfz34_1 := blk_frozen BK251.out 1; have hfz34_2 := blk_frozen BK251.out 2; have hfz34_3 := blk_frozen BK251.out 3; have hnb35 := NB252_238.out; have hnc35 := NB238_252.out; have hnb36 := NB252_239.out; have hnc36 := NB239_252.out; have hnb37 := NB252_240.out; have hnc37 := NB240_252.out; have hnb38 := NB252_241.out; have hnc38 := NB241_252.out; have hcz39_0 : w28.cell? ⟨gb252, 0, none⟩ = some (.int .i64 0) := (blk_cell BK252.out 0).trans rfl; have hcz39_1 : w28.cell? ⟨gb252, 1, none⟩ = some (.int .i64 0) := (blk_cell BK252.out 1).trans rfl; have hcz39_2 : w28.cell? ⟨gb252, 2, none⟩ = some (.int .i64 0) := (blk_cell BK252.out 2).trans rfl; have hcz39_3 : w28.cell? ⟨gb252, 3, none⟩ = some (.int .i64 0) := (blk_cell BK252.out 3).trans rfl; have hfz39_0 := blk_frozen BK252.out 0; have hfz39_1 := blk_frozen BK252.out 1; have hfz39_2 := blk_frozen BK252.out 2; have hfz39_3 := blk_frozen BK252.out 3))
  have n0_ : Aside0 (((((((((w28.setCell ⟨gb251, 0, none⟩ (.int .i64 t243)).setCell ⟨gb251, 1, none⟩ (.int .i64 t244)).setCell ⟨gb251, 2, none⟩ (.int .i64 t245)).setCell ⟨gb251, 3, none⟩ (.int .i64 t246)).setCell ⟨gb252, 0, none⟩ (.int .i64 t247)).setCell ⟨gb252, 1, none⟩ (.int .i64 t248)).setCell ⟨gb252, 2, none⟩ (.int .i64 t249)).setCell ⟨gb252, 3, none⟩ (.int .i64 t250)).heap[gb238]? = some (.cells #[.slice A0_0 l0_0.length c0_0, .slice A0_1 l0_1.length c0_1, .slice A0_2 l0_2.length c0_2] 25 (0, 0))) := ⟨by (with_reducible repeat (first | refine blk_drewN ?_ _ | refine blk_drew ?_ | refine blk_alloc ?_ _)); refine blk_far ?_ NB238_252.out _; (with_reducible repeat (first | refine blk_drewN ?_ _ | refine blk_drew ?_ | refine blk_alloc ?_ _)); refine blk_far ?_ NB238_252.out _; (with_reducible repeat (first | refine blk_drewN ?_ _ | refine blk_drew ?_ | refine blk_alloc ?_ _)); refine blk_far ?_ NB238_252.out _; (with_reducible repeat (first | refine blk_drewN ?_ _ | refine blk_drew ?_ | refine blk_alloc ?_ _)); refine blk_far ?_ NB238_252.out _; (with_reducible repeat (first | refine blk_drewN ?_ _ | refine blk_drew ?_ | refine blk_alloc ?_ _)); refine blk_far ?_ NB238_251.out _; (with_reducible repeat (first | refine blk_drewN ?_ _ | refine blk_drew ?_ | refine blk_alloc ?_ _)); refine blk_far ?_ NB238_251.out _; (with_reducible repeat (first | refine blk_drewN ?_ _ | refine blk_drew ?_ | refine blk_alloc ?_ _)); refine blk_far ?_ NB238_251.out _; (with_reducible repeat (first | refine blk_drewN ?_ _ | refine blk_drew ?_ | refine blk_alloc ?_ _)); refine blk_far ?_ NB238_251.out _; (with_reducible repeat (first | refine blk_drewN ?_ _ | refine blk_drew ?_ | refine blk_alloc ?_ _)); exact BK238.out⟩
  have n1_ : Aside0 (((((((((w28.setCell ⟨gb251, 0, none⟩ (.int .i64 t243)).setCell ⟨gb251, 1, none⟩ (.int .i64 t244)).setCell ⟨gb251, 2, none⟩ (.int .i64 t245)).setCell ⟨gb251, 3, none⟩ (.int .i64 t246)).setCell ⟨gb252, 0, none⟩ (.int .i64 t247)).setCell ⟨gb252, 1, none⟩ (.int .i64 t248)).setCell ⟨gb252, 2, none⟩ (.int .i64 t249)).setCell ⟨gb252, 3, none⟩ (.int .i64 t250)).heap[gb239]? = some (.cells #[.int .i64 a1_0, .int .i64 a1_1] 27 (0, 0))) := ⟨by (with_reducible repeat (first | refine blk_drewN ?_ _ | refine blk_drew ?_ | refine blk_alloc ?_ _)); refine blk_far ?_ NB239_252.out _; (with_reducible repeat (first | refine blk_drewN ?_ _ | refine blk_drew ?_ | refine blk_alloc ?_ _)); refine blk_far ?_ NB239_252.out _; (with_reducible repeat (first | refine blk_drewN ?_ _ | refine blk_drew ?_ | refine blk_alloc ?_ _)); refine blk_far ?_ NB239_252.out _; (with_reducible repeat (first | refine blk_drewN ?_ _ | refine blk_drew ?_ | refine blk_alloc ?_ _)); refine blk_far ?_ NB239_252.out _; (with_reducible repeat (first | refine blk_drewN ?_ _ | refine blk_drew ?_ | refine blk_alloc ?_ _)); refine blk_far ?_ NB239_251.out _; (with_reducible repeat (first | refine blk_drewN ?_ _ | refine blk_drew ?_ | refine blk_alloc ?_ _)); refine blk_far ?_ NB239_251.out _; (with_reducible repeat (first | refine blk_drewN ?_ _ | refine blk_drew ?_ | refine blk_alloc ?_ _)); refine blk_far ?_ NB239_251.out _; (with_reducible repeat (first | refine blk_drewN ?_ _ | refine blk_drew ?_ | refine blk_alloc ?_ _)); refine blk_far ?_ NB239_251.out _; (with_reducible repeat (first | refine blk_drewN ?_ _ | refine blk_drew ?_ | refine blk_alloc ?_ _)); exact BK239.out⟩
  have n2_ : Aside0 (((((((((w28.setCell ⟨gb251, 0, none⟩ (.int .i64 t243)).setCell ⟨gb251, 1, none⟩ (.int .i64 t244)).setCell ⟨gb251, 2, none⟩ (.int .i64 t245)).setCell ⟨gb251, 3, none⟩ (.int .i64 t246)).setCell ⟨gb252, 0, none⟩ (.int .i64 t247)).setCell ⟨gb252, 1, none⟩ (.int .i64 t248)).setCell ⟨gb252, 2, none⟩ (.int .i64 t249)).setCell ⟨gb252, 3, none⟩ (.int .i64 t250)).heap[gb240]? = some (.cells #[.int .i64 a2_0, .int .i64 a2_1] 27 (0, 0))) := ⟨by (with_reducible repeat (first | refine blk_drewN ?_ _ | refine blk_drew ?_ | refine blk_alloc ?_ _)); refine blk_far ?_ NB240_252.out _; (with_reducible repeat (first | refine blk_drewN ?_ _ | refine blk_drew ?_ | refine blk_alloc ?_ _)); refine blk_far ?_ NB240_252.out _; (with_reducible repeat (first | refine blk_drewN ?_ _ | refine blk_drew ?_ | refine blk_alloc ?_ _)); refine blk_far ?_ NB240_252.out _; (with_reducible repeat (first | refine blk_drewN ?_ _ | refine blk_drew ?_ | refine blk_alloc ?_ _)); refine blk_far ?_ NB240_252.out _; (with_reducible repeat (first | refine blk_drewN ?_ _ | refine blk_drew ?_ | refine blk_alloc ?_ _)); refine blk_far ?_ NB240_251.out _; (with_reducible repeat (first | refine blk_drewN ?_ _ | refine blk_drew ?_ | refine blk_alloc ?_ _)); refine blk_far ?_ NB240_251.out _; (with_reducible repeat (first | refine blk_drewN ?_ _ | refine blk_drew ?_ | refine blk_alloc ?_ _)); refine blk_far ?_ NB240_251.out _; (with_reducible repeat (first | refine blk_drewN ?_ _ | refine blk_drew ?_ | refine blk_alloc ?_ _)); refine blk_far ?_ NB240_251.out _; (with_reducible repeat (first | refine blk_drewN ?_ _ | refine blk_drew ?_ | refine blk_alloc ?_ _)); exact BK240.out⟩
  have n3_ : Aside0 (((((((((w28.setCell ⟨gb251, 0, none⟩ (.int .i64 t243)).setCell ⟨gb251, 1, none⟩ (.int .i64 t244)).setCell ⟨gb251, 2, none⟩ (.int .i64 t245)).setCell ⟨gb251, 3, none⟩ (.int .i64 t246)).setCell ⟨gb252, 0, none⟩ (.int .i64 t247)).setCell ⟨gb252, 1, none⟩ (.int .i64 t248)).setCell ⟨gb252, 2, none⟩ (.int .i64 t249)).setCell ⟨gb252, 3, none⟩ (.int .i64 t250)).heap[gb241]? = some (.cells #[.int .i64 0, .int .i64 0] 27 (0, 0))) := ⟨by (with_reducible repeat (first | refine blk_drewN ?_ _ | refine blk_drew ?_ | refine blk_alloc ?_ _)); refine blk_far ?_ NB241_252.out _; (with_reducible repeat (first | refine blk_drewN ?_ _ | refine blk_drew ?_ | refine blk_alloc ?_ _)); refine blk_far ?_ NB241_252.out _; (with_reducible repeat (first | refine blk_drewN ?_ _ | refine blk_drew ?_ | refine blk_alloc ?_ _)); refine blk_far ?_ NB241_252.out _; (with_reducible repeat (first | refine blk_drewN ?_ _ | refine blk_drew ?_ | refine blk_alloc ?_ _)); refine blk_far ?_ NB241_252.out _; (with_reducible repeat (first | refine blk_drewN ?_ _ | refine blk_drew ?_ | refine blk_alloc ?_ _)); refine blk_far ?_ NB241_251.out _; (with_reducible repeat (first | refine blk_drewN ?_ _ | refine blk_drew ?_ | refine blk_alloc ?_ _)); refine blk_far ?_ NB241_251.out _; (with_reducible repeat (first | refine blk_drewN ?_ _ | refine blk_drew ?_ | refine blk_alloc ?_ _)); refine blk_far ?_ NB241_251.out _; (with_reducible repeat (first | refine blk_drewN ?_ _ | refine blk_drew ?_ | refine blk_alloc ?_ _)); refine blk_far ?_ NB241_251.out _; (with_reducible repeat (first | refine blk_drewN ?_ _ | refine blk_drew ?_ | refine blk_alloc ?_ _)); exact BK241.out⟩
  have n4_ : Aside0 (((((((((w28.setCell ⟨gb251, 0, none⟩ (.int .i64 t243)).setCell ⟨gb251, 1, none⟩ (.int .i64 t244)).setCell ⟨gb251, 2, none⟩ (.int .i64 t245)).setCell ⟨gb251, 3, none⟩ (.int .i64 t246)).setCell ⟨gb252, 0, none⟩ (.int .i64 t247)).setCell ⟨gb252, 1, none⟩ (.int .i64 t248)).setCell ⟨gb252, 2, none⟩ (.int .i64 t249)).setCell ⟨gb252, 3, none⟩ (.int .i64 t250)).heap[gb251]? = some (.cells #[.int .i64 t243, .int .i64 t244, .int .i64 t245, .int .i64 t246] 133 (0, 0))) := ⟨by (with_reducible repeat (first | refine blk_drewN ?_ _ | refine blk_drew ?_ | refine blk_alloc ?_ _)); refine blk_far ?_ NB251_252.out _; (with_reducible repeat (first | refine blk_drewN ?_ _ | refine blk_drew ?_ | refine blk_alloc ?_ _)); refine blk_far ?_ NB251_252.out _; (with_reducible repeat (first | refine blk_drewN ?_ _ | refine blk_drew ?_ | refine blk_alloc ?_ _)); refine blk_far ?_ NB251_252.out _; (with_reducible repeat (first | refine blk_drewN ?_ _ | refine blk_drew ?_ | refine blk_alloc ?_ _)); refine blk_far ?_ NB251_252.out _; (with_reducible repeat (first | refine blk_drewN ?_ _ | refine blk_drew ?_ | refine blk_alloc ?_ _)); refine blk_put (cs := #[.int .i64 t243, .int .i64 t244, .int .i64 t245, .int .i64 0]) ?_ 3 _ rfl; (with_reducible repeat (first | refine blk_drewN ?_ _ | refine blk_drew ?_ | refine blk_alloc ?_ _)); refine blk_put (cs := #[.int .i64 t243, .int .i64 t244, .int .i64 0, .int .i64 0]) ?_ 2 _ rfl; (with_reducible repeat (first | refine blk_drewN ?_ _ | refine blk_drew ?_ | refine blk_alloc ?_ _)); refine blk_put (cs := #[.int .i64 t243, .int .i64 0, .int .i64 0, .int .i64 0]) ?_ 1 _ rfl; (with_reducible repeat (first | refine blk_drewN ?_ _ | refine blk_drew ?_ | refine blk_alloc ?_ _)); refine blk_put (cs := #[.int .i64 0, .int .i64 0, .int .i64 0, .int .i64 0]) ?_ 0 _ rfl; (with_reducible repeat (first | refine blk_drewN ?_ _ | refine blk_drew ?_ | refine blk_alloc ?_ _)); exact BK251.out⟩
  have n5_ : Aside0 (((((((((w28.setCell ⟨gb251, 0, none⟩ (.int .i64 t243)).setCell ⟨gb251, 1, none⟩ (.int .i64 t244)).setCell ⟨gb251, 2, none⟩ (.int .i64 t245)).setCell ⟨gb251, 3, none⟩ (.int .i64 t246)).setCell ⟨gb252, 0, none⟩ (.int .i64 t247)).setCell ⟨gb252, 1, none⟩ (.int .i64 t248)).setCell ⟨gb252, 2, none⟩ (.int .i64 t249)).setCell ⟨gb252, 3, none⟩ (.int .i64 t250)).heap[gb252]? = some (.cells #[.int .i64 t247, .int .i64 t248, .int .i64 t249, .int .i64 t250] 133 (0, 0))) := ⟨by (with_reducible repeat (first | refine blk_drewN ?_ _ | refine blk_drew ?_ | refine blk_alloc ?_ _)); refine blk_put (cs := #[.int .i64 t247, .int .i64 t248, .int .i64 t249, .int .i64 0]) ?_ 3 _ rfl; (with_reducible repeat (first | refine blk_drewN ?_ _ | refine blk_drew ?_ | refine blk_alloc ?_ _)); refine blk_put (cs := #[.int .i64 t247, .int .i64 t248, .int .i64 0, .int .i64 0]) ?_ 2 _ rfl; (with_reducible repeat (first | refine blk_drewN ?_ _ | refine blk_drew ?_ | refine blk_alloc ?_ _)); refine blk_put (cs := #[.int .i64 t247, .int .i64 0, .int .i64 0, .int .i64 0]) ?_ 1 _ rfl; (with_reducible repeat (first | refine blk_drewN ?_ _ | refine blk_drew ?_ | refine blk_alloc ?_ _)); refine blk_put (cs := #[.int .i64 0, .int .i64 0, .int .i64 0, .int .i64 0]) ?_ 0 _ rfl; (with_reducible repeat (first | refine blk_drewN ?_ _ | refine blk_drew ?_ | refine blk_alloc ?_ _)); refine blk_far ?_ NB252_251.out _; (with_reducible repeat (first | refine blk_drewN ?_ _ | refine blk_drew ?_ | refine blk_alloc ?_ _)); refine blk_far ?_ NB252_251.out _; (with_reducible repeat (first | refine blk_drewN ?_ _ | refine blk_drew ?_ | refine blk_alloc ?_ _)); refine blk_far ?_ NB252_251.out _; (with_reducible repeat (first | refine blk_drewN ?_ _ | refine blk_drew ?_ | refine blk_alloc ?_ _)); refine blk_far ?_ NB252_251.out _; (with_reducible repeat (first | refine blk_drewN ?_ _ | refine blk_drew ?_ | refine blk_alloc ?_ _)); exact BK252.out⟩
  have n6_ : Aside0 (Below w.heap.size w ((((((((w28.setCell ⟨gb251, 0, none⟩ (.int .i64 t243)).setCell ⟨gb251, 1, none⟩ (.int .i64 t244)).setCell ⟨gb251, 2, none⟩ (.int .i64 t245)).setCell ⟨gb251, 3, none⟩ (.int .i64 t246)).setCell ⟨gb252, 0, none⟩ (.int .i64 t247)).setCell ⟨gb252, 1, none⟩ (.int .i64 t248)).setCell ⟨gb252, 2, none⟩ (.int .i64 t249)).setCell ⟨gb252, 3, none⟩ (.int .i64 t250))) := ⟨bl_ HB.out⟩
  (try clear BK238)
  (try clear BK239)
  (try clear BK240)
  (try clear BK241)
  (try clear BK251)
  (try clear BK252)
  (try clear HB)
  generalize ((((((((w28.setCell ⟨gb251, 0, none⟩ (.int .i64 t243)).setCell ⟨gb251, 1, none⟩ (.int .i64 t244)).setCell ⟨gb251, 2, none⟩ (.int .i64 t245)).setCell ⟨gb251, 3, none⟩ (.int .i64 t246)).setCell ⟨gb252, 0, none⟩ (.int .i64 t247)).setCell ⟨gb252, 1, none⟩ (.int .i64 t248)).setCell ⟨gb252, 2, none⟩ (.int .i64 t249)).setCell ⟨gb252, 3, none⟩ (.int .i64 t250)) = w40 at n0_ n1_ n2_ n3_ n4_ n5_ n6_ ⊢
  have BK238 := n0_
  have BK239 := n1_
  have BK240 := n2_
  have BK241 := n3_
  have BK251 := n4_
  have BK252 := n5_
  have HB := n6_
  clear n0_ n1_ n2_ n3_ n4_ n5_ n6_
  have n0_ := Aside0.mk (blk_drew BK238.out)
  have n1_ := Aside0.mk (blk_drew BK239.out)
  have n2_ := Aside0.mk (blk_drew BK240.out)
  have n3_ := Aside0.mk (blk_drew BK241.out)
  have n4_ := Aside0.mk (blk_drew BK251.out)
  have n5_ := Aside0.mk (blk_drew BK252.out)
  have n6_ := Aside0.mk (below_drew1 HB.out)
  clear BK238 BK239 BK240 BK241 BK251 BK252 HB
  have BK238 := n0_
  have BK239 := n1_
  have BK240 := n2_
  have BK241 := n3_
  have BK251 := n4_
  have BK252 := n5_
  have HB := n6_
  clear n0_ n1_ n2_ n3_ n4_ n5_ n6_
  refine start_ (n := 13) (S := fun w' => w'.cell? ⟨gb251, 0, none⟩ = some (.int .i64 t243) ∧ w'.cell? ⟨gb251, 1, none⟩ = some (.int .i64 t244) ∧ w'.cell? ⟨gb251, 2, none⟩ = some (.int .i64 t245) ∧ w'.cell? ⟨gb251, 3, none⟩ = some (.int .i64 t246) ∧ w'.cell? ⟨gb252, 0, none⟩ = some (.int .i64 t247) ∧ w'.cell? ⟨gb252, 1, none⟩ = some (.int .i64 t248) ∧ w'.cell? ⟨gb252, 2, none⟩ = some (.int .i64 t249) ∧ w'.cell? ⟨gb252, 3, none⟩ = some (.int .i64 t250)) (ds := []) #[false, false, false, false, false, false, false, false, false, false, false, false, false] (by kernel_rfl) rfl rfl ⟨(blk_cell BK251.out 0).trans rfl, (blk_cell BK251.out 1).trans rfl, (blk_cell BK251.out 2).trans rfl, (blk_cell BK251.out 3).trans rfl, (blk_cell BK252.out 0).trans rfl, (blk_cell BK252.out 1).trans rfl, (blk_cell BK252.out 2).trans rfl, (blk_cell BK252.out 3).trans rfl⟩ (fun hHeld => ?_); refine with_tabW spans_Bound.tab5 spans_Bound.bits5 (fun HT_ HW_ => ?_)
  generalize w40.drew = w41 at BK238 BK239 BK240 BK241 BK251 BK252 HB hHeld ⊢
  refine pure_ (i := 0) (N := some 26) (v := ?_) (a' := ?_) #[true, false, false, false, false, false, false, false, false, false, false, false, false] rfl rfl (any_of HT_.out (by kernel_rfl)) (fun _ _ _ h => h) (Or.inl ⟨by rfl, ?_⟩) ?_ ?_
  rotate_left
  ·
   intro w'
   go_simp
   with_reducible rfl
  rotate_left
  ·
   simp only [Act.put, List.setIfInBounds_toArray, List.set_cons_zero, List.set_cons_succ, i64_w, i32_w]
   rfl
  refine pure_ (i := 1) (N := some 27) (v := ?_) (a' := ?_) #[true, true, false, false, false, false, false, false, false, false, false, false, false] rfl rfl (any_of HT_.out (by kernel_rfl)) (fun _ _ _ h => h) (Or.inl ⟨by rfl, ?_⟩) ?_ ?_
  rotate_left
  ·
   intro w'
   go_simp
   with_reducible rfl
  rotate_left
  ·
   simp only [Act.put, List.setIfInBounds_toArray, List.set_cons_zero, List.set_cons_succ, i64_w, i32_w]
   rfl
  refine pure_ (i := 3) (N := some 29) (v := ?_) (a' := ?_) #[true, true, false, true, false, false, false, false, false, false, false, false, false] rfl rfl (any_of HT_.out (by kernel_rfl)) (fun _ _ _ h => h) (Or.inl ⟨by rfl, ?_⟩) ?_ ?_
  rotate_left
  ·
   intro w'
   go_simp
   with_reducible rfl
  rotate_left
  ·
   simp only [Act.put, List.setIfInBounds_toArray, List.set_cons_zero, List.set_cons_succ, i64_w, i32_w]
   rfl
  refine pure_ (i := 4) (N := some 30) (v := ?_) (a' := ?_) #[true, true, false, true, true, false, false, false, false, false, false, false, false] rfl rfl (any_of HT_.out (by kernel_rfl)) (fun _ _ _ h => h) (Or.inl ⟨by rfl, ?_⟩) ?_ ?_
  rotate_left
  ·
   intro w'
   go_simp
   with_reducible rfl
  rotate_left
  ·
   simp only [Act.put, List.setIfInBounds_toArray, List.set_cons_zero, List.set_cons_succ, i64_w, i32_w]
   rfl
  refine pure_ (i := 7) (N := some 33) (v := ?_) (a' := ?_) #[true, true, false, true, true, false, false, true, false, false, false, false, false] rfl rfl (any_of HT_.out (by kernel_rfl)) (fun _ _ _ h => h) (Or.inl ⟨by rfl, ?_⟩) ?_ ?_
  rotate_left
  ·
   intro w'
   go_simp
   with_reducible rfl
  rotate_left
  ·
   simp only [Act.put, List.setIfInBounds_toArray, List.set_cons_zero, List.set_cons_succ, i64_w, i32_w]
   rfl
  refine take_ (i := 2) (N := some 28) (v := ?_) (a' := ?_) #[true, true, true, true, true, false, false, true, false, false, false, false, false] rfl rfl (take_ofW HT_.out HW_.out (by kernel_rfl)) (fun _ _ _ h => h) (Or.inl ⟨by rfl, ?_⟩) hHeld ?_ ?_
  rotate_left
  ·
   rintro w' ⟨s0, s1, s2, s3, s4, s5, s6, s7⟩
   go_simp
   with_reducible rfl
  rotate_left
  ·
   simp only [Act.put, List.setIfInBounds_toArray, List.set_cons_zero, List.set_cons_succ, i64_w, i32_w]
   rfl
  refine take_ (i := 5) (N := some 31) (v := ?_) (a' := ?_) #[true, true, true, true, true, true, false, true, false, false, false, false, false] rfl rfl (take_ofW HT_.out HW_.out (by kernel_rfl)) (fun _ _ _ h => h) (Or.inl ⟨by rfl, ?_⟩) hHeld ?_ ?_
  rotate_left
  ·
   rintro w' ⟨s0, s1, s2, s3, s4, s5, s6, s7⟩
   go_simp
   with_reducible rfl
  rotate_left
  ·
   simp only [Act.put, List.setIfInBounds_toArray, List.set_cons_zero, List.set_cons_succ, i64_w, i32_w]
   rfl
  refine take_ (i := 8) (N := some 34) (v := ?_) (a' := ?_) #[true, true, true, true, true, true, false, true, true, false, false, false, false] rfl rfl (take_ofW HT_.out HW_.out (by kernel_rfl)) (fun _ _ _ h => h) (Or.inl ⟨by rfl, ?_⟩) hHeld ?_ ?_
  rotate_left
  ·
   rintro w' ⟨s0, s1, s2, s3, s4, s5, s6, s7⟩
   go_simp
   with_reducible rfl
  rotate_left
  ·
   simp only [Act.put, List.setIfInBounds_toArray, List.set_cons_zero, List.set_cons_succ, i64_w, i32_w]
   rfl
  refine one_ (i := 6) (N := some 32) #[true, true, true, true, true, true, true, true, true, false, false, false, false] rfl rfl (one_of HT_.out (by kernel_rfl)) (by decide) (fun K hK => ?_)
  refine goes_ Try.func100 (by kernel_rfl) rfl #[.int .i64 t245, .int .i64 t246] (by rfl) rfl rfl (by (try simp only [List.map_toArray, List.map_cons, List.map_nil]); first | done | rfl | (simp only [List.length_drop, List.length_take]; rfl)) ?_
  with_reducible refine (spans_floor.calls t245 t246 t253 _ A7.out).mono ?_
  rintro e w' ⟨rfl, ⟨nd, rfl⟩⟩
  refine ⟨_, rfl, ?_⟩
  refine hK.out _ _ ⟨(blk_cell BK251.out 0).trans rfl, (blk_cell BK251.out 1).trans rfl, (blk_cell BK251.out 2).trans rfl, (blk_cell BK251.out 3).trans rfl, (blk_cell BK252.out 0).trans rfl, (blk_cell BK252.out 1).trans rfl, (blk_cell BK252.out 2).trans rfl, (blk_cell BK252.out 3).trans rfl⟩ (fun hHeld => ?_)
  clear hK K
  refine norm_ (a' := ?_) ?_ ?_
  rotate_left
  ·
   show Act.put _ (some 32) _ = _
   simp only [Act.put, List.setIfInBounds_toArray, List.set_cons_zero, List.set_cons_succ, i64_w, i32_w]
   rfl
  refine one_ (i := 9) (N := some 35) #[true, true, true, true, true, true, true, true, true, true, false, false, false] rfl rfl (one_of HT_.out (by kernel_rfl)) (by decide) (fun K hK => ?_)
  refine goes_ Try.func90 (by kernel_rfl) rfl #[.agg #[.int .i64 t249, .int .i64 t250]] (by rfl) rfl rfl (by (try simp only [List.map_toArray, List.map_cons, List.map_nil]); first | done | rfl | (simp only [List.length_drop, List.length_take]; rfl)) ?_
  with_reducible refine (spans_value_up.calls t249 t250 t254 _ A8.out).mono ?_
  rintro e w42 ⟨rfl, hb⟩
  refine ⟨_, rfl, ?_⟩
  have n0_ := Aside0.mk (blk_below (bk_ BK238.out) hb)
  have n1_ := Aside0.mk (blk_below (bk_ BK239.out) hb)
  have n2_ := Aside0.mk (blk_below (bk_ BK240.out) hb)
  have n3_ := Aside0.mk (blk_below (bk_ BK241.out) hb)
  have n4_ := Aside0.mk (blk_below (bk_ BK251.out) hb)
  have n5_ := Aside0.mk (blk_below (bk_ BK252.out) hb)
  have n6_ := Aside0.mk (below_step (bl_ HB.out) hb)
  clear BK238 BK239 BK240 BK241 BK251 BK252 HB
  have BK238 := n0_
  have BK239 := n1_
  have BK240 := n2_
  have BK241 := n3_
  have BK251 := n4_
  have BK252 := n5_
  have HB := n6_
  clear n0_ n1_ n2_ n3_ n4_ n5_ n6_
  (try clear hb)
  (try clear hb2)
  (try clear hk)
  (try clear hi)
  refine hK.out _ _ ⟨(blk_cell BK251.out 0).trans rfl, (blk_cell BK251.out 1).trans rfl, (blk_cell BK251.out 2).trans rfl, (blk_cell BK251.out 3).trans rfl, (blk_cell BK252.out 0).trans rfl, (blk_cell BK252.out 1).trans rfl, (blk_cell BK252.out 2).trans rfl, (blk_cell BK252.out 3).trans rfl⟩ (fun hHeld => ?_)
  clear hK K
  refine norm_ (a' := ?_) ?_ ?_
  rotate_left
  ·
   show Act.put _ (some 35) _ = _
   simp only [Act.put, List.setIfInBounds_toArray, List.set_cons_zero, List.set_cons_succ, i64_w, i32_w]
   rfl
  refine pure_ (i := 10) (N := some 36) (v := ?_) (a' := ?_) #[true, true, true, true, true, true, true, true, true, true, true, false, false] rfl rfl (any_of HT_.out (by kernel_rfl)) (fun _ _ _ h => h) (Or.inl ⟨by rfl, ?_⟩) ?_ ?_
  rotate_left
  ·
   intro w'
   go_simp
   with_reducible rfl
  rotate_left
  ·
   simp only [Act.put, List.setIfInBounds_toArray, List.set_cons_zero, List.set_cons_succ, i64_w, i32_w]
   rfl
  refine one_ (i := 11) (N := none) #[true, true, true, true, true, true, true, true, true, true, true, true, false] rfl rfl (one_of HT_.out (by kernel_rfl)) (by decide) (fun K hK => ?_)
  have hs43 : w42.cell? ⟨gb241, 0, none⟩ = some (.int .i64 0) := (blk_cell BK241.out 0).trans rfl
  have hfs43 := blk_frozen BK241.out 0
  have hns43_0 := NB238_241.out
  have hns43_1 := NB239_241.out
  have hns43_2 := NB240_241.out
  have hns43_4 := NB251_241.out
  have hns43_5 := NB252_241.out
  have hms43_0 := NB241_238.out
  have hms43_1 := NB241_239.out
  have hms43_2 := NB241_240.out
  have hms43_4 := NB241_251.out
  have hms43_5 := NB241_252.out
  have hs44 : w42.cell? ⟨gb241, 1, none⟩ = some (.int .i64 0) := (blk_cell BK241.out 1).trans rfl
  have hfs44 := blk_frozen BK241.out 1
  have hns44_0 := NB238_241.out
  have hns44_1 := NB239_241.out
  have hns44_2 := NB240_241.out
  have hns44_4 := NB251_241.out
  have hns44_5 := NB252_241.out
  have hms44_0 := NB241_238.out
  have hms44_1 := NB241_239.out
  have hms44_2 := NB241_240.out
  have hms44_4 := NB241_251.out
  have hms44_5 := NB241_252.out
  refine skip_ (w1 := ?_) (by rfl) rfl ?_ ?_
  rotate_left
  ·
   go_simp
   rfl
  refine hK.out _ _ ⟨((cell_far (p := ⟨gb241, _, none⟩) NB251_241.out _).trans (((cell_far (p := ⟨gb241, _, none⟩) NB251_241.out _).trans (hHeld.1)))), ((cell_far (p := ⟨gb241, _, none⟩) NB251_241.out _).trans (((cell_far (p := ⟨gb241, _, none⟩) NB251_241.out _).trans (hHeld.2.1)))), ((cell_far (p := ⟨gb241, _, none⟩) NB251_241.out _).trans (((cell_far (p := ⟨gb241, _, none⟩) NB251_241.out _).trans (hHeld.2.2.1)))), ((cell_far (p := ⟨gb241, _, none⟩) NB251_241.out _).trans (((cell_far (p := ⟨gb241, _, none⟩) NB251_241.out _).trans (hHeld.2.2.2.1)))), ((cell_far (p := ⟨gb241, _, none⟩) NB252_241.out _).trans (((cell_far (p := ⟨gb241, _, none⟩) NB252_241.out _).trans (hHeld.2.2.2.2.1)))), ((cell_far (p := ⟨gb241, _, none⟩) NB252_241.out _).trans (((cell_far (p := ⟨gb241, _, none⟩) NB252_241.out _).trans (hHeld.2.2.2.2.2.1)))), ((cell_far (p := ⟨gb241, _, none⟩) NB252_241.out _).trans (((cell_far (p := ⟨gb241, _, none⟩) NB252_241.out _).trans (hHeld.2.2.2.2.2.2.1)))), ((cell_far (p := ⟨gb241, _, none⟩) NB252_241.out _).trans (((cell_far (p := ⟨gb241, _, none⟩) NB252_241.out _).trans (hHeld.2.2.2.2.2.2.2))))⟩ (fun hHeld => ?_)
  clear hK K
  refine pure_ (i := 12) (N := some 7) (v := ?_) (a' := ?_) #[true, true, true, true, true, true, true, true, true, true, true, true, true] rfl rfl (any_of HT_.out (by kernel_rfl)) (fun _ _ _ h => h) (Or.inl ⟨by rfl, ?_⟩) ?_ ?_
  rotate_left
  ·
   intro w'
   go_simp
   with_reducible rfl
  rotate_left
  ·
   simp only [Act.put, List.setIfInBounds_toArray, List.set_cons_zero, List.set_cons_succ, i64_w, i32_w]
   rfl
  refine done_ (done_of HT_.out (by kernel_rfl)) ?_
  try go_wp2
  refine bodyPost_ret (results_ct rfl _ _ gb241 27 #[.int .i64 t253, .int .i64 t254] (0, 0) _ rfl (by (with_reducible repeat (first | refine blk_drewN ?_ _ | refine blk_drew ?_ | refine blk_alloc ?_ _)); refine blk_put (cs := #[.int .i64 t253, .int .i64 0]) ?_ 1 _ rfl; (with_reducible repeat (first | refine blk_drewN ?_ _ | refine blk_drew ?_ | refine blk_alloc ?_ _)); refine blk_put (cs := #[.int .i64 0, .int .i64 0]) ?_ 0 _ rfl; (with_reducible repeat (first | refine blk_drewN ?_ _ | refine blk_drew ?_ | refine blk_alloc ?_ _)); exact BK241.out) Try.underlying27 rfl (by kernel_rfl)) rfl ?_
  exact ⟨by first | rfl | (simp [errW_none, errW_some] <;> rfl) | (simp [*, errW_none, errW_some] <;> rfl), bl_ HB.out⟩
 ·
  rw [if_neg c5] at H
  have c5b0 : (t242 == 0) = false := beq_eq_false_iff_ne.mpr c5
  have c5b1 : (t242 != 0) = true := bne_iff_ne.mpr c5
  simp only [Option.some.injEq, Prod.mk.injEq] at H
  obtain ⟨rfl, rfl, rfl⟩ := H
  go_enter Try.func30, Try.ntmps30
  go_wp2_with (first | ((with_reducible refine gate_dst (N := 3) rfl ?_); refine box_event ?hg (N := 3) ?hd (cs := #[.slice A0_0 l0_0.length c0_0, .slice A0_1 l0_1.length c0_1, .slice A0_2 l0_2.length c0_2]) (t := 25) ?hr ?_; (case hd => rfl); (case hg => rfl); (case hr => first | (go_simp; done) | (go_simp; rfl)); intro gb238 hg w45 hbox hb; have n0_ := Aside0.mk (below_step (bl_ HB.out) hb); have n1_ := Aside0.mk (hbox); have n2_ := Aside0.mk (szl_ hg HB.out); have n3_ := Aside0.mk (szl_ hg HB.out); clear HB; have HB := n0_; have BK238 := n1_; have GW238 := n2_; have GE238 := n3_; clear n0_ n1_ n2_ n3_ hb hbox hg) | ((with_reducible refine gate_dst (N := 4) rfl ?_); refine box_event ?hg (N := 4) ?hd (cs := #[.int .i64 a1_0, .int .i64 a1_1]) (t := 27) ?hr ?_; (case hd => rfl); (case hg => rfl); (case hr => first | (go_simp; done) | (go_simp; rfl)); intro gb239 hg w46 hbox hb; have n0_ := Aside0.mk (blk_below (bk_ BK238.out) hb); have n1_ := Aside0.mk (below_step (bl_ HB.out) hb); have n2_ := Aside0.mk (hbox); have n3_ := Aside0.mk (szl_ hg HB.out); have n4_ := Aside0.mk (szl_ hg HB.out); have n5_ := Aside0.mk (nel_ hg BK238.out); have n6_ := Aside0.mk (ner_ hg BK238.out); clear BK238 HB; have BK238 := n0_; have HB := n1_; have BK239 := n2_; have GW239 := n3_; have GE239 := n4_; have NB238_239 := n5_; have NB239_238 := n6_; clear n0_ n1_ n2_ n3_ n4_ n5_ n6_ hb hbox hg) | ((with_reducible refine gate_dst (N := 5) rfl ?_); refine box_event ?hg (N := 5) ?hd (cs := #[.int .i64 a2_0, .int .i64 a2_1]) (t := 27) ?hr ?_; (case hd => rfl); (case hg => rfl); (case hr => first | (go_simp; done) | (go_simp; rfl)); intro gb240 hg w47 hbox hb; have n0_ := Aside0.mk (blk_below (bk_ BK238.out) hb); have n1_ := Aside0.mk (blk_below (bk_ BK239.out) hb); have n2_ := Aside0.mk (below_step (bl_ HB.out) hb); have n3_ := Aside0.mk (hbox); have n4_ := Aside0.mk (szl_ hg HB.out); have n5_ := Aside0.mk (szl_ hg HB.out); have n6_ := Aside0.mk (nel_ hg BK238.out); have n7_ := Aside0.mk (ner_ hg BK238.out); have n8_ := Aside0.mk (nel_ hg BK239.out); have n9_ := Aside0.mk (ner_ hg BK239.out); clear BK238 BK239 HB; have BK238 := n0_; have BK239 := n1_; have HB := n2_; have BK240 := n3_; have GW240 := n4_; have GE240 := n5_; have NB238_240 := n6_; have NB240_238 := n7_; have NB239_240 := n8_; have NB240_239 := n9_; clear n0_ n1_ n2_ n3_ n4_ n5_ n6_ n7_ n8_ n9_ hb hbox hg) | ((with_reducible refine gate_dst (N := 6) rfl ?_); refine box_event ?hg (N := 6) ?hd (cs := #[.int .i64 0, .int .i64 0]) (t := 27) ?hr ?_; (case hd => rfl); (case hg => rfl); (case hr => first | (go_simp; done) | (go_simp; rfl)); intro gb241 hg w48 hbox hb; have n0_ := Aside0.mk (blk_below (bk_ BK238.out) hb); have n1_ := Aside0.mk (blk_below (bk_ BK239.out) hb); have n2_ := Aside0.mk (blk_below (bk_ BK240.out) hb); have n3_ := Aside0.mk (below_step (bl_ HB.out) hb); have n4_ := Aside0.mk (hbox); have n5_ := Aside0.mk (szl_ hg HB.out); have n6_ := Aside0.mk (szl_ hg HB.out); have n7_ := Aside0.mk (nel_ hg BK238.out); have n8_ := Aside0.mk (ner_ hg BK238.out); have n9_ := Aside0.mk (nel_ hg BK239.out); have n10_ := Aside0.mk (ner_ hg BK239.out); have n11_ := Aside0.mk (nel_ hg BK240.out); have n12_ := Aside0.mk (ner_ hg BK240.out); clear BK238 BK239 BK240 HB; have BK238 := n0_; have BK239 := n1_; have BK240 := n2_; have HB := n3_; have BK241 := n4_; have GW241 := n5_; have GE241 := n6_; have NB238_241 := n7_; have NB241_238 := n8_; have NB239_241 := n9_; have NB241_239 := n10_; have NB240_241 := n11_; have NB241_240 := n12_; clear n0_ n1_ n2_ n3_ n4_ n5_ n6_ n7_ n8_ n9_ n10_ n11_ n12_ hb hbox hg; have hnb49 := NB238_239.out; have hnc49 := NB239_238.out; have hnb50 := NB238_240.out; have hnc50 := NB240_238.out; have hnb51 := NB238_241.out; have hnc51 := NB241_238.out; have hcz52_0 : w48.cell? ⟨gb238, 0, none⟩ = some (.slice A0_0 l0_0.length c0_0) := (blk_cell BK238.out 0).trans rfl; have hcz52_1 : w48.cell? ⟨gb238, 1, none⟩ = some (.slice A0_1 l0_1.length c0_1) := (blk_cell BK238.out 1).trans rfl; have hcz52_2 : w48.cell? ⟨gb238, 2, none⟩ = some (.slice A0_2 l0_2.length c0_2) := (blk_cell BK238.out 2).trans rfl; have hfz52_0 := blk_frozen BK238.out 0; have hfz52_1 := blk_frozen BK238.out 1; have hfz52_2 := blk_frozen BK238.out 2; have hnb53 := NB239_240.out; have hnc53 := NB240_239.out; have hnb54 := NB239_241.out; have hnc54 := NB241_239.out; have hcz55_0 : w48.cell? ⟨gb239, 0, none⟩ = some (.int .i64 a1_0) := (blk_cell BK239.out 0).trans rfl; have hcz55_1 : w48.cell? ⟨gb239, 1, none⟩ = some (.int .i64 a1_1) := (blk_cell BK239.out 1).trans rfl; have hfz55_0 := blk_frozen BK239.out 0; have hfz55_1 := blk_frozen BK239.out 1; have hnb56 := NB240_241.out; have hnc56 := NB241_240.out; have hcz57_0 : w48.cell? ⟨gb240, 0, none⟩ = some (.int .i64 a2_0) := (blk_cell BK240.out 0).trans rfl; have hcz57_1 : w48.cell? ⟨gb240, 1, none⟩ = some (.int .i64 a2_1) := (blk_cell BK240.out 1).trans rfl; have hfz57_0 := blk_frozen BK240.out 0; have hfz57_1 := blk_frozen BK240.out 1) | ((with_reducible refine gate_callee (f := 88) rfl ?_); refine goesL_ (some 14) rfl rfl Try.func88 (by kernel_rfl) rfl #[.agg #[.slice A0_0 l0_0.length c0_0, .slice A0_1 l0_1.length c0_1, .slice A0_2 l0_2.length c0_2], .agg #[.int .i64 a1_0, .int .i64 a1_1], .agg #[.int .i64 a2_0, .int .i64 a2_1]] rfl (by (try simp only [List.map_toArray, List.map_cons, List.map_nil]); first | done | rfl | (simp only [List.length_drop, List.length_take]; rfl)) ?_; (with_reducible refine (spans_checkPoints.calls _ _ l0_0 _ _ l0_1 _ _ l0_2 a1_0 a1_1 a2_0 a2_1 t242 _ ?side1 ?side2 ?side3 ?side4 ?side5 ?side6 A4.out).mono ?_); (case side1 => exact cr_ (Kd.C_below HR0_0.out HB.out)); (case side2 => exact HC0_0.out); (case side3 => exact cr_ (Kd.C_below HR0_1.out HB.out)); (case side4 => exact HC0_1.out); (case side5 => exact cr_ (Kd.C_below HR0_2.out HB.out)); (case side6 => exact HC0_2.out); rintro e w58 ⟨rfl, hb⟩; refine ⟨_, rfl, ?_⟩; have n0_ := Aside0.mk (blk_below (bk_ BK238.out) hb); have n1_ := Aside0.mk (blk_below (bk_ BK239.out) hb); have n2_ := Aside0.mk (blk_below (bk_ BK240.out) hb); have n3_ := Aside0.mk (blk_below (bk_ BK241.out) hb); have n4_ := Aside0.mk (below_step (bl_ HB.out) hb); clear BK238 BK239 BK240 BK241 HB; have BK238 := n0_; have BK239 := n1_; have BK240 := n2_; have BK241 := n3_; have HB := n4_; clear n0_ n1_ n2_ n3_ n4_; (try clear hb); (try clear hb2); (try clear hk); (try clear hi); have hcz59_0 : w58.cell? ⟨gb241, 0, none⟩ = some (.int .i64 0) := (blk_cell BK241.out 0).trans rfl; have hcz59_1 : w58.cell? ⟨gb241, 1, none⟩ = some (.int .i64 0) := (blk_cell BK241.out 1).trans rfl; have hfz59_0 := blk_frozen BK241.out 0; have hfz59_1 := blk_frozen BK241.out 1))
  refine bodyPost_ret (results_ct rfl _ _ gb241 27 #[.int .i64 0, .int .i64 0] (0, 0) _ rfl (by (with_reducible repeat (first | refine blk_drewN ?_ _ | refine blk_drew ?_ | refine blk_alloc ?_ _)); refine blk_put (cs := #[.int .i64 0, .int .i64 0]) ?_ 1 _ rfl; (with_reducible repeat (first | refine blk_drewN ?_ _ | refine blk_drew ?_ | refine blk_alloc ?_ _)); refine blk_put (cs := #[.int .i64 0, .int .i64 0]) ?_ 0 _ rfl; (with_reducible repeat (first | refine blk_drewN ?_ _ | refine blk_drew ?_ | refine blk_alloc ?_ _)); exact BK241.out) Try.underlying27 rfl (by kernel_rfl)) rfl ?_
  exact ⟨by first | rfl | (simp [errW_none, errW_some] <;> rfl) | (simp [*, errW_none, errW_some] <;> rfl), bl_ HB.out⟩
end Go.Proofs.Yteodlmgmmpkpoaa.PS
end
section
namespace Go.Proofs.Yteodlmgmmpkpoaa.PS
open Go.RowKit Go.Deep Go.ChangeShapes Go.WideShapes Go.Proofs.YteodlmgmmpkpoaaW.PrintWords
set_option linter.unusedVariables false
def Opn {α : Type} (P : Program) (d : Kd α) (t : TypeId) (ok : α → Prop) : Prop :=
  P.cellsOf t = d.sz ∧ ∀ (H : Type) (enc : TypeId × Value → H) (w : World) (base : Nat) (held : Bool) (fuel : Nat) (cs : List Value) (x : DataW H × List MemPlace),
    DataW.trod enc P w base (fun _ => true) held fuel t cs = some x → ∃ a, d.K w a cs ∧ ok a
theorem opn_row {α : Type} {P : Program} {d : Kd α} {t e : TypeId} {ok : α → Prop} (ht : P.underlying t = some (.slice e)) (he : Opn P d e ok) {H : Type} {enc : TypeId × Value → H} {w : World} {base : Nat} {held : Bool} {fuel : Nat} {cs : List Value} {x : DataW H × List MemPlace}
    (h : DataW.trod enc P w base (fun _ => true) held fuel t cs = some x) : ∃ A c, ∃ l : List α, cs = [.slice A l.length c] ∧ l.length ≤ c ∧ d.C w A l.length l ∧ (∀ a ∈ l, ok a) ∧ l.length ≤ maxLen := by
  rcases open_slice ht h with ⟨rfl, _⟩ | ⟨a, len, cap, m, n, D, Pl, rfl, _, hl, hm, hmm, _, hx⟩
  · exact ⟨none, 0, [], rfl, Nat.le_refl _, ⟨rfl, by simp, fun h0 => absurd h0 (Nat.lt_irrefl _)⟩, by simp, Nat.zero_le _⟩
  · simp only [if_true] at hmm
    subst hmm
    have each : ∀ i, i < len → ∃ q : α × List Value, d.K w q.1 q.2 ∧ ok q.1 ∧ q.2.length = d.sz ∧ ∀ j u, q.2[j]? = some u → w.cell? (a.add (i * d.sz + j)) = some u := by
      intro i hi
      obtain ⟨cs', hc1, hc2⟩ := hx i (by omega)
      obtain ⟨y, hy1, hy2⟩ := he.2 H enc w base held n cs' _ hc2
      rw [he.1] at hc1
      obtain ⟨_, hlen, hcell⟩ := World.cells?_some hc1
      refine ⟨(y, cs'), hy1, hy2, hlen, fun j u hu => ?_⟩
      have hj : j < d.sz := by
        rw [← hlen]
        exact (List.getElem?_eq_some_iff.1 hu).1
      have := hcell j hj
      simp only [Addr.add_add] at this
      rw [this]
      exact hu
    by_cases h0 : len = 0
    · subst h0
      exact ⟨some a, m, [], rfl, Nat.zero_le _, ⟨rfl, by simp, fun h0 => absurd h0 (Nat.lt_irrefl _)⟩, by simp, Nat.zero_le _⟩
    · haveI : Inhabited (α × List Value) := ⟨(each 0 (by omega)).choose⟩
      obtain ⟨f, hf⟩ := choose_lt each
      have hlen : ((List.range len).map fun i => (f i).1).length = len := by simp
      refine ⟨some a, m, (List.range len).map fun i => (f i).1, by rw [hlen], by rw [hlen]; exact hl, ⟨rfl, by rw [hlen]; simp only [maxLen] at hm; omega, fun _ => ⟨a, rfl, fun j p hp => ?_⟩⟩, ?_, by rw [hlen]; exact Nat.le_trans hl hm⟩
      · have hj : j < len := by
          have := (List.getElem?_eq_some_iff.1 hp).1
          rwa [hlen] at this
        have : p = (f j).1 := by simpa [hj] using hp.symm
        subst this
        obtain ⟨q1, _, q3, q4⟩ := hf j hj
        exact ⟨(f j).2, q3, q1, q4⟩
      · intro y hy
        obtain ⟨i, hi, rfl⟩ := List.mem_map.1 hy
        exact (hf i (List.mem_range.1 hi)).2.1
theorem opn_span {P : Program} {t : TypeId} {f0 f1 : Field} (ht : P.underlying t = some (.struct #[f0, f1])) (hc : P.cellsOf t = 2) (o0 : f0.offset = 0) (o1 : f1.offset = 1) (c0 : P.cellsOf f0.type = 1) (c1 : P.cellsOf f1.type = 1)
    (i0 : P.underlying f0.type = some (.int .i64)) (i1 : P.underlying f1.type = some (.int .i64)) : Opn P k27 t (fun s => (Lit.int .i64 s.f0).wf = true ∧ (Lit.int .i64 s.f1).wf = true) :=
  ⟨hc, fun H enc w base held fuel cs x h => by
    obtain ⟨y0, y1, n, _, hl, h0, h1⟩ := trod_struct2 ht h
    rw [hc] at hl
    match cs, hl with
    | [u, v], _ =>
      rw [o0, c0] at h0
      rw [o1, c1] at h1
      obtain ⟨a, ha, _, wa⟩ := DataW.trod_int i0 h0
      obtain ⟨b, hb, _, wb⟩ := DataW.trod_int i1 h1
      simp at ha hb
      subst ha hb
      exact ⟨⟨a, b⟩, k27_mk _ _, wa, wb⟩⟩
end Go.Proofs.Yteodlmgmmpkpoaa.PS
end
section
namespace Go.Proofs.Yteodlmgmmpkpoaa.PS
open Go.RowKit Go.Deep Go.ChangeShapes Go.WideShapes Go.ChangeAt Go.Proofs.YteodlmgmmpkpoaaW.PrintWords
set_option linter.unusedVariables false
theorem ownNone : ownKnob Try.prog.godebug = none := by kernel_rfl
theorem laidOut : laidOutB Try.prog = true := by kernel_rfl
def wfI (n : Int) : Prop := (Lit.int .i64 n).wf = true
def wfS (s : S27) : Prop := wfI s.f0 ∧ wfI s.f1
theorem opn27 : Opn Try.prog k27 27 wfS := opn_span Try.underlying27 (by kernel_rfl) rfl rfl (by kernel_rfl) (by kernel_rfl) Try.underlying3 Try.underlying3
end Go.Proofs.Yteodlmgmmpkpoaa.PS
end
section
namespace Go.Proofs.Yteodlmgmmpkpoaa.PS
open Go.RowKit Go.Deep Go.ChangeShapes Go.WideShapes Go.ChangeAt Go.Proofs.YteodlmgmmpkpoaaW.PrintWords
set_option linter.unusedVariables false
section
variable {H : Type} {enc : TypeId × Value → H} {w : World} {base : Nat} {held : Bool} {v : Value} {d : DataW H} {ps : List MemPlace} {r : Reach} {b0 : Nat}
theorem pair27 {fuel : Nat} {c0 c1 : Value} {x : DataW H × List MemPlace} (hf : DataW.trod enc Try.prog w base (fun _ => true) held fuel 27 [c0, c1] = some x) : ∃ a b : Int, c0 = .int .i64 a ∧ c1 = .int .i64 b := by
  obtain ⟨s, hs, _⟩ := opn27.2 H enc w base held fuel _ _ hf
  have e := k27_open hs
  simp only [List.cons.injEq, and_true] at e
  exact ⟨_, _, e.1, e.2⟩
set_option maxRecDepth 100000 in
theorem arg105 (hv : Value.okWide Try.prog w r b0 105 v) (h : DataW.Trod enc Try.prog w base (fun _ => true) held 105 v d ps) :
    ∃ n m D : Int, v = .agg #[.int .i64 n, .int .i64 m, .int .i64 D] := by
  obtain ⟨cs, rfl, hsz⟩ := okWide_struct Try.underlying105 hv
  obtain ⟨c0, c1, c2, rfl⟩ : ∃ a b c, cs = #[a, b, c] := by
    have hs : cs.toList.length = 3 := hsz.trans (by kernel_rfl)
    match h : cs.toList, hs with
    | [a, b, c], _ => exact ⟨a, b, c, by rw [← Array.toArray_toList (xs := cs), h]⟩
  obtain ⟨fuel, hf⟩ := h
  obtain ⟨y0, y1, y2, n, _, _, h0, h1, h2⟩ := trod_struct3 Try.underlying105 hf
  have e1 : Try.prog.cellsOf 3 = 1 := by kernel_rfl
  simp only [e1, Value.cells, List.drop_zero, List.drop_succ_cons, List.take_succ_cons, List.take_zero] at h0 h1 h2
  obtain ⟨a, ha, _⟩ := DataW.trod_int Try.underlying3 h0
  obtain ⟨b, hb, _⟩ := DataW.trod_int Try.underlying3 h1
  obtain ⟨c, hc, _⟩ := DataW.trod_int Try.underlying3 h2
  simp only [List.cons.injEq, and_true] at ha hb hc
  subst ha hb hc
  exact ⟨a, b, c, rfl⟩
set_option maxRecDepth 100000 in
theorem arg122 (hv : Value.okWide Try.prog w r b0 122 v) (h : DataW.Trod enc Try.prog w base (fun _ => true) held 122 v d ps) :
    ∃ A c, ∃ l : List S27, ∃ g0 g1 lo hi N : Int, v = .agg #[.slice A l.length c, .int .i64 g0, .int .i64 g1, .int .i64 lo, .int .i64 hi, .int .i64 N] ∧ l.length ≤ c ∧ Kd.C k27 w A l.length l := by
  obtain ⟨cs, rfl, hsz⟩ := okWide_struct Try.underlying122 hv
  obtain ⟨c0, c1, c2, c3, c4, c5, rfl⟩ : ∃ a b c d e f, cs = #[a, b, c, d, e, f] := by
    have hs : cs.toList.length = 6 := hsz.trans (by kernel_rfl)
    match h : cs.toList, hs with
    | [a, b, c, d, e, f], _ => exact ⟨a, b, c, d, e, f, by rw [← Array.toArray_toList (xs := cs), h]⟩
  obtain ⟨fuel, hf⟩ := h
  obtain ⟨y0, y1, y2, y3, n, _, _, h0, h1, h2, h3⟩ := Go.Joins.trod_struct4 Try.underlying122 hf
  have e1 : Try.prog.cellsOf 3 = 1 := by kernel_rfl
  have e3 : Try.prog.cellsOf 27 = 2 := by kernel_rfl
  have e4 : Try.prog.cellsOf 38 = 1 := by kernel_rfl
  simp only [e1, e3, e4, Value.cells, List.drop_zero, List.drop_succ_cons, List.take_succ_cons, List.take_zero] at h0 h1 h2 h3
  obtain ⟨A, q, l, hc, a1, a2, a3, a4⟩ := opn_row Try.underlying38 opn27 h0
  obtain ⟨g0, g1, rfl, rfl⟩ := pair27 h1
  obtain ⟨lo, hi, rfl, rfl⟩ := pair27 h2
  obtain ⟨N, hN, _⟩ := DataW.trod_int Try.underlying3 h3
  simp only [List.cons.injEq, and_true] at hN hc
  subst hN hc
  exact ⟨A, q, l, g0, g1, lo, hi, N, rfl, a1, a2⟩
end
end Go.Proofs.Yteodlmgmmpkpoaa.PS
end
section
namespace Go.Proofs.Yteodlmgmmpkpoaa.PS
open Go.RowKit Go.ChangeShapes Go.WideShapes Go.ChangeAt
theorem factKeys : (Rows.spansChecksRow.plainKeys == Try.prog.plainKeys) = true := by kernel_rfl
theorem factHeard : Try.prog.stopsHeard = true := by kernel_rfl
theorem factEnter : Try.prog.mayEnter = true := by kernel_rfl
theorem factLifted : (Rows.spansChecksRow.lifted == Try.prog.liftsFinal) = true := by kernel_rfl
theorem factMake : (Try.prog.make == some Rows.spansChecksRow.make) = true := by kernel_rfl
end Go.Proofs.Yteodlmgmmpkpoaa.PS
end
section
namespace Go.Proofs.Yteodlmgmmpkpoaa.PS
open Go.RowKit Go.Proofs.YteodlmgmmpkpoaaW.PrintWords Go.Proofs.YteodlmgmmpkpoaaW.PrintLast Go.Proofs.YteodlmgmmpkpoaaW.PrintMore
attribute [local go_sem] max2_int min2_int max_two min_two max_three min_three max_four min_four   -- for this text's walks alone
set_option linter.unusedVariables false
set_option linter.unusedSimpArgs false
theorem info28 : (Try.prog.info? 28).map (fun i => (i.zero, i.size, i.bytes)) = some (some (.agg #[(.int .i64 0), (.int .i64 0)]), 2, 16) := by kernel_rfl
structure S28 where
  f0 : Int
  f1 : Int
def z28 : S28 := ⟨(0 : Int), (0 : Int)⟩
def k28 : Kd S28 := Kd.iso (Kd.pair (Kd.int .i64) (Kd.int .i64)) (fun x : S28 => (x.f0, x.f1))
theorem k28_open {w : World} {x : S28} {cs : List Value} (h : k28.K w x cs) : cs = [.int .i64 x.f0, .int .i64 x.f1] := by
  obtain ⟨_, _, rfl, rfl, rfl⟩ := h
  exact rfl
theorem k28_mkM (w : World) (base : Nat) (ok : Nat → Prop) (x : S28)  : k28.M w base ok x [.int .i64 x.f0, .int .i64 x.f1] := ⟨[.int .i64 x.f0], [.int .i64 x.f1], rfl, rfl, rfl⟩
def rd_T28 (xs : List S28) (i : Int) : S28 := xs.getD i.toNat z28
theorem at_T28 {w : World} {A : Option Addr} {n : Nat} {xs : List S28} (h : Kd.C k28 w A n xs) (i : Int) (h0 : 0 ≤ i) (h1 : i < n) : ∃ ad , A = some ad ∧ w.cell? (ad.add (i.toNat * 2)) = some (.int .i64 (rd_T28 xs i).f0) ∧ w.cell? ⟨(ad.add (i.toNat * 2)).block, (ad.add (i.toNat * 2)).off + 1, none⟩ = some (.int .i64 (rd_T28 xs i).f1) := by
  obtain ⟨ad, c, e, _, hK, hc0⟩ := Kd.C_get h z28 i h0 h1
  have hc : ∀ j u, c[j]? = some u → w.cell? (ad.add (i.toNat * 2 + j)) = some u := hc0
  obtain rfl := k28_open hK
  exact ⟨ad, e, hc 0 _ rfl, by rw [← add_field _ _ 1 (by omega)]; exact hc 1 _ rfl⟩
theorem eqA28 (d : Nat) (w : World) (x0 y0 : Int) (x1 y1 : Int) :
    (Op.equalIn (d + 2) 28 (.agg #[.int .i64 x0, .int .i64 x1]) (.agg #[.int .i64 y0, .int .i64 y1])).run Try.prog w = .ok (x0 == y0 && (x1 == y1)) w := by
  unfold Op.equalIn
  have hi : (isAgg 3).run Try.prog w = .ok false w := by kernel_rfl
  have e3 : ∀ a b : Int, (Op.equalIn (d + 1) 3 (.int .i64 a) (.int .i64 b)).run Try.prog w = .ok (a == b) w := fun a b => by
    unfold Op.equalIn
    simp [Try.underlying3, go_sem]
  simp [Try.underlying28, Try.underlying3, go_sem, List.range', Sem.run_bind, hi, Result.andThen, e3]
  by_cases h0 : x0 = y0 <;> by_cases h1 : x1 = y1 <;> simp [h0, h1, go_sem, hi, e3, Result.andThen, Sem.run_bind]
end Go.Proofs.Yteodlmgmmpkpoaa.PS
end
section
namespace Go.Proofs.Yteodlmgmmpkpoaa.PS
open Go.RowKit Go.Proofs.YteodlmgmmpkpoaaW.PrintWords Go.Proofs.YteodlmgmmpkpoaaW.PrintLast Go.Proofs.YteodlmgmmpkpoaaW.PrintMore
attribute [local go_sem] max2_int min2_int max_two min_two max_three min_three max_four min_four   -- for this text's walks alone
set_option linter.unusedVariables false
set_option linter.unusedSimpArgs false
def sling_lowest.l0 : Nat → Int → Int → Int → Int → Option (Int × Int)
 | 0, _, _, _, _ => none
 | k + 1, x0, x1, x5, x6 => if x6 > 0 then (if x6 = 0 then (none) else (sling_lowest.l0 k x0 x1 x6 (Int.tmod x5 x6))) else (if x5 = 0 then (none) else (some (wrap64 (Int.tdiv x0 x5), wrap64 (Int.tdiv x1 x5))))
def sling_lowest.f (k : Nat) (a0 : Int) (a1 : Int) : Option (Int × Int) := sling_lowest.l0 k a0 a1 (mx a0 (wrap64 (-a0))) a1
def sling_lowest.T4 : Bool × List (List Nat × List Nat) := (true, [([], []), ([], []), ([0, 1], [0, 1]), ([], []), ([], []), ([3, 4], [3, 4]), ([2, 5], [2, 5]), ([6, 0, 1, 2, 3, 4, 5, 6], [6])])
def sling_lowest.B4 : List Nat := [0, 0, 3, 0, 0, 24, 63, 127]
theorem sling_lowest.tab4 : rtab .any (opsOf Try.f143 4) = sling_lowest.T4 := by kernel_rfl
theorem sling_lowest.bits4 : waitsOk sling_lowest.T4.2 sling_lowest.B4 = true := by kernel_rfl
set_option maxHeartbeats 8000000 in
set_option maxRecDepth 100000 in
theorem sling_lowest.calls (k : Nat) (a0 : Int) (a1 : Int) (r1 : Int) (r2 : Int) (w : World) (h : sling_lowest.f k a0 a1 = some (r1, r2)) :
  Calls Try.prog 143 #[.int .i64 a0, .int .i64 a1] w fun e w' => e = .returned (.agg #[.int .i64 r1, .int .i64 r2]) ∧ Below w.heap.size w w' := by
 have hu28 := Try.underlying28
 have HB := Aside0.mk (Below.refl w.heap.size w)
 have H : (sling_lowest.l0 k a0 a1 (mx a0 (wrap64 (-a0))) a1) = some (r1, r2) := h
 clear h
 obtain ⟨ji3, hji3⟩ : ∃ j_ : Int, (mx a0 (wrap64 (-a0))) = j_ := ⟨_, rfl⟩
 replace H : (sling_lowest.l0 k a0 a1 ji3 a1) = some (r1, r2) := by first | (rw [hji3] at H; exact H) | (simp only [hji3] at H ⊢; exact H)
 have hji3_ : (if a0 < (wrap64 (-a0)) then (wrap64 (-a0)) else a0) = ji3 := hji3
 have H' := Aside0.mk H
 clear H
 go_enter Try.func143, Try.ntmps143
 go_wp2_with (first | ((with_reducible refine gate_dst (N := 4) rfl ?_); refine box_event ?hg (N := 4) ?hd (cs := #[.int .i64 0, .int .i64 0]) (t := 28) ?hr ?_; (case hd => rfl); (case hg => rfl); (case hr => first | (go_simp; done) | (go_simp; rfl)); intro gb248 hg w4 hbox hb; have n0_ := Aside0.mk (below_step (bl_ HB.out) hb); have n1_ := Aside0.mk (hbox); have n2_ := Aside0.mk (szl_ hg HB.out); have n3_ := Aside0.mk (szl_ hg HB.out); clear HB; have HB := n0_; have BK248 := n1_; have GW248 := n2_; have GE248 := n3_; clear n0_ n1_ n2_ n3_ hb hbox hg))
 go_loopg [5, 6] k (fun kq v5 v6 w' => ∃ (x5_1 : Int) (x6_1 : Int), v5 = .int .i64 x5_1 ∧ v6 = .int .i64 x6_1 ∧ Aside0 (sling_lowest.l0 kq a0 a1 x5_1 x6_1 = some (r1, r2)) ∧ Aside0 (kq ≤ k) ∧ Aside0 (w'.heap[gb248]? = some (.cells #[.int .i64 0, .int .i64 0] 28 (0, 0))) ∧ Aside0 (Below w.heap.size w w'))
 case atStart => exact ⟨(ji3), (a1), (by first | rfl | (simp; done) | (simp only [← hji3] <;> (first | rfl | simp)) | (simp [*]; done)), (by first | rfl | (simp; done) | (simp [*]; done)), H', ⟨Nat.le_refl _⟩, ⟨bk_ BK248.out⟩, ⟨bl_ HB.out⟩⟩
 case round =>
  clear H'
  try clear c1
  try clear p2
  obtain ⟨x5_1, x6_1, rfl, rfl, HA, HK1, BK248, HB⟩ := hrel
  cases gk with
  | zero => exact absurd HA.out (by simp [sling_lowest.l0])
  | succ k1 =>
   have H := HA.out
   clear HA
   simp only [sling_lowest.l0] at H
   by_cases c5 : x6_1 > 0
   ·
    rw [if_pos c5] at H
    have c5b0 : decide (0 < x6_1) = true := decide_eq_true c5
    clear c5
    by_cases c6 : x6_1 = 0
    ·
     rw [if_pos c6] at H
     exact absurd H (by simp)
    ·
     rw [if_neg c6] at H
     have c6b0 : (x6_1 == 0) = false := beq_eq_false_iff_ne.mpr c6
     have c6b1 : (x6_1 != 0) = true := bne_iff_ne.mpr c6
     have H' := Aside0.mk H
     clear H
     try go_wp2
     have n0_ := Aside0.mk (blk_drew BK248.out)
     have n1_ := Aside0.mk (below_drew1 HB.out)
     clear BK248 HB
     have BK248 := n0_
     have HB := n1_
     clear n0_ n1_
     refine start_ (n := 6) (S := fun w' => True) (ds := []) #[false, false, false, false, false, false] (by kernel_rfl) rfl rfl trivial (fun hHeld => ?_)
     generalize wr.drew = w7 at BK248 HB hHeld ⊢
     refine pure_ (i := 0) (N := some 14) (v := ?_) (a' := ?_) #[true, false, false, false, false, false] rfl rfl (by kernel_rfl) (fun _ _ _ h => h) (Or.inl ⟨by rfl, ?_⟩) ?_ ?_
     rotate_left
     ·
      intro w'
      go_simp
      with_reducible rfl
     rotate_left
     ·
      simp only [Act.put, List.setIfInBounds_toArray, List.set_cons_zero, List.set_cons_succ, i64_w, i32_w]
      rfl
     refine pure_ (i := 1) (N := some 15) (v := ?_) (a' := ?_) #[true, true, false, false, false, false] rfl rfl (by kernel_rfl) (fun _ _ _ h => h) (Or.inl ⟨by rfl, ?_⟩) ?_ ?_
     rotate_left
     ·
      intro w'
      go_simp
      with_reducible rfl
     rotate_left
     ·
      simp only [Act.put, List.setIfInBounds_toArray, List.set_cons_zero, List.set_cons_succ, i64_w, i32_w]
      rfl
     refine pure_ (i := 2) (N := some 16) (v := ?_) (a' := ?_) #[true, true, true, false, false, false] rfl rfl (by kernel_rfl) (fun _ _ _ h => h) (Or.inl ⟨by rfl, ?_⟩) ?_ ?_
     rotate_left
     ·
      intro w'
      go_simp
      with_reducible rfl
     rotate_left
     ·
      simp only [Act.put, List.setIfInBounds_toArray, List.set_cons_zero, List.set_cons_succ, i64_w, i32_w]
      rfl
     refine pure_ (i := 3) (N := some 17) (v := ?_) (a' := ?_) #[true, true, true, true, false, false] rfl rfl (by kernel_rfl) (fun _ _ _ h => h) (Or.inl ⟨by rfl, ?_⟩) ?_ ?_
     rotate_left
     ·
      intro w'
      go_simp
      with_reducible rfl
     rotate_left
     ·
      simp only [Act.put, List.setIfInBounds_toArray, List.set_cons_zero, List.set_cons_succ, i64_w, i32_w]
      rfl
     refine pure_ (i := 4) (N := some 5) (v := ?_) (a' := ?_) #[true, true, true, true, true, false] rfl rfl (by kernel_rfl) (fun _ _ _ h => h) (Or.inl ⟨by rfl, ?_⟩) ?_ ?_
     rotate_left
     ·
      intro w'
      go_simp
      with_reducible rfl
     rotate_left
     ·
      simp only [Act.put, List.setIfInBounds_toArray, List.set_cons_zero, List.set_cons_succ, i64_w, i32_w]
      rfl
     refine pure_ (i := 5) (N := some 6) (v := ?_) (a' := ?_) #[true, true, true, true, true, true] rfl rfl (by kernel_rfl) (fun _ _ _ h => h) (Or.inl ⟨by rfl, ?_⟩) ?_ ?_
     rotate_left
     ·
      intro w'
      go_simp
      with_reducible rfl
     rotate_left
     ·
      simp only [Act.put, List.setIfInBounds_toArray, List.set_cons_zero, List.set_cons_succ, i64_w, i32_w]
      rfl
     refine done_ (by kernel_rfl) ?_
     try go_wp2
     go_roundg k1
     case measure => have := HK1.out; omega
     case rel => exact ⟨(x6_1), (Int.tmod x5_1 x6_1), (by first | rfl | (simp; done) | (simp [*]; done)), (by first | rfl | (simp; done) | (simp [*]; done)), H', ⟨by have := HK1.out; omega⟩, ⟨bk_ BK248.out⟩, ⟨bl_ HB.out⟩⟩
   ·
    rw [if_neg c5] at H
    have c5b0 : decide (0 < x6_1) = false := decide_eq_false c5
    clear c5
    by_cases c8 : x5_1 = 0
    ·
     rw [if_pos c8] at H
     exact absurd H (by simp)
    ·
     rw [if_neg c8] at H
     have c8b0 : (x5_1 == 0) = false := beq_eq_false_iff_ne.mpr c8
     have c8b1 : (x5_1 != 0) = true := bne_iff_ne.mpr c8
     simp only [Option.some.injEq, Prod.mk.injEq] at H
     obtain ⟨rfl, rfl⟩ := H
     try go_wp2
     have n0_ := Aside0.mk (blk_drew BK248.out)
     have n1_ := Aside0.mk (below_drew1 HB.out)
     clear BK248 HB
     have BK248 := n0_
     have HB := n1_
     clear n0_ n1_
     refine start_ (n := 8) (S := fun w' => True) (ds := []) #[false, false, false, false, false, false, false, false] (by kernel_rfl) rfl rfl trivial (fun hHeld => ?_); refine with_tabW sling_lowest.tab4 sling_lowest.bits4 (fun HT_ HW_ => ?_)
     generalize wr.drew = w9 at BK248 HB hHeld ⊢
     refine pure_ (i := 0) (N := some 18) (v := ?_) (a' := ?_) #[true, false, false, false, false, false, false, false] rfl rfl (any_of HT_.out (by kernel_rfl)) (fun _ _ _ h => h) (Or.inl ⟨by rfl, ?_⟩) ?_ ?_
     rotate_left
     ·
      intro w'
      go_simp
      with_reducible rfl
     rotate_left
     ·
      simp only [Act.put, List.setIfInBounds_toArray, List.set_cons_zero, List.set_cons_succ, i64_w, i32_w]
      rfl
     refine pure_ (i := 1) (N := some 19) (v := ?_) (a' := ?_) #[true, true, false, false, false, false, false, false] rfl rfl (any_of HT_.out (by kernel_rfl)) (fun _ _ _ h => h) (Or.inl ⟨by rfl, ?_⟩) ?_ ?_
     rotate_left
     ·
      intro w'
      go_simp
      with_reducible rfl
     rotate_left
     ·
      simp only [Act.put, List.setIfInBounds_toArray, List.set_cons_zero, List.set_cons_succ, i64_w, i32_w]
      rfl
     refine pure_ (i := 2) (N := some 20) (v := ?_) (a' := ?_) #[true, true, true, false, false, false, false, false] rfl rfl (any_of HT_.out (by kernel_rfl)) (fun _ _ _ h => h) (Or.inl ⟨by rfl, ?_⟩) ?_ ?_
     rotate_left
     ·
      intro w'
      go_simp
      with_reducible rfl
     rotate_left
     ·
      simp only [Act.put, List.setIfInBounds_toArray, List.set_cons_zero, List.set_cons_succ, i64_w, i32_w]
      rfl
     refine pure_ (i := 3) (N := some 21) (v := ?_) (a' := ?_) #[true, true, true, true, false, false, false, false] rfl rfl (any_of HT_.out (by kernel_rfl)) (fun _ _ _ h => h) (Or.inl ⟨by rfl, ?_⟩) ?_ ?_
     rotate_left
     ·
      intro w'
      go_simp
      with_reducible rfl
     rotate_left
     ·
      simp only [Act.put, List.setIfInBounds_toArray, List.set_cons_zero, List.set_cons_succ, i64_w, i32_w]
      rfl
     refine pure_ (i := 4) (N := some 22) (v := ?_) (a' := ?_) #[true, true, true, true, true, false, false, false] rfl rfl (any_of HT_.out (by kernel_rfl)) (fun _ _ _ h => h) (Or.inl ⟨by rfl, ?_⟩) ?_ ?_
     rotate_left
     ·
      intro w'
      go_simp
      with_reducible rfl
     rotate_left
     ·
      simp only [Act.put, List.setIfInBounds_toArray, List.set_cons_zero, List.set_cons_succ, i64_w, i32_w]
      rfl
     refine pure_ (i := 5) (N := some 23) (v := ?_) (a' := ?_) #[true, true, true, true, true, true, false, false] rfl rfl (any_of HT_.out (by kernel_rfl)) (fun _ _ _ h => h) (Or.inl ⟨by rfl, ?_⟩) ?_ ?_
     rotate_left
     ·
      intro w'
      go_simp
      with_reducible rfl
     rotate_left
     ·
      simp only [Act.put, List.setIfInBounds_toArray, List.set_cons_zero, List.set_cons_succ, i64_w, i32_w]
      rfl
     refine pure_ (i := 6) (N := some 24) (v := ?_) (a' := ?_) #[true, true, true, true, true, true, true, false] rfl rfl (any_of HT_.out (by kernel_rfl)) (fun _ _ _ h => h) (Or.inl ⟨by rfl, ?_⟩) ?_ ?_
     rotate_left
     ·
      intro w'
      go_simp
      with_reducible rfl
     rotate_left
     ·
      simp only [Act.put, List.setIfInBounds_toArray, List.set_cons_zero, List.set_cons_succ, i64_w, i32_w]
      rfl
     refine one_ (i := 7) (N := none) #[true, true, true, true, true, true, true, true] rfl rfl (one_of HT_.out (by kernel_rfl)) (by decide) (fun K hK => ?_)
     have hs10 : w9.cell? ⟨gb248, 0, none⟩ = some (.int .i64 0) := (blk_cell BK248.out 0).trans rfl
     have hfs10 := blk_frozen BK248.out 0
     have hs11 : w9.cell? ⟨gb248, 1, none⟩ = some (.int .i64 0) := (blk_cell BK248.out 1).trans rfl
     have hfs11 := blk_frozen BK248.out 1
     refine skip_ (w1 := ?_) (by rfl) rfl ?_ ?_
     rotate_left
     ·
      go_simp
      rfl
     refine hK.out _ _ trivial (fun hHeld => ?_)
     clear hK K
     refine done_ (done_of HT_.out (by kernel_rfl)) ?_
     try go_wp2
     refine bodyPost_ret (results_cell_row rfl _ _ gb248 28 #[.int .i64 (wrap64 (Int.tdiv a0 x5_1)), .int .i64 (wrap64 (Int.tdiv a1 x5_1))] (0, 0) _ rfl (by (with_reducible repeat (first | refine blk_drewN ?_ _ | refine blk_drew ?_ | refine blk_alloc ?_ _)); refine blk_put (cs := #[.int .i64 (wrap64 (Int.tdiv a0 x5_1)), .int .i64 0]) ?_ 1 _ rfl; (with_reducible repeat (first | refine blk_drewN ?_ _ | refine blk_drew ?_ | refine blk_alloc ?_ _)); refine blk_put (cs := #[.int .i64 0, .int .i64 0]) ?_ 0 _ rfl; (with_reducible repeat (first | refine blk_drewN ?_ _ | refine blk_drew ?_ | refine blk_alloc ?_ _)); exact BK248.out) Try.underlying28 rfl (by kernel_rfl)) rfl ?_
     exact ⟨by first | rfl | (simp [errW_none, errW_some] <;> rfl) | (simp only [← hji3]; first | rfl | (simp [errW_none, errW_some] <;> rfl)) | (simp [*, errW_none, errW_some] <;> rfl), bl_ HB.out⟩
end Go.Proofs.Yteodlmgmmpkpoaa.PS
end
section
namespace Go.Proofs.Yteodlmgmmpkpoaa.PS
open Go.RowKit Go.Proofs.YteodlmgmmpkpoaaW.PrintWords Go.Proofs.YteodlmgmmpkpoaaW.PrintLast Go.Proofs.YteodlmgmmpkpoaaW.PrintMore
set_option linter.unusedVariables false
structure Ld where
  a : Int
  v : Int
  d : Int
def tkV (n m D : Int) (s : Ld) (g : Int) : Int := wrap64 (wrap64 (wrap64 (wrap64 (D * s.v) - wrap64 (n * s.a)) - wrap64 (m * s.v)) + wrap64 (g * wrap64 (s.d * D)))
def tkL (n m D : Int) (s : Ld) (g : Int) : Ld := ⟨wrap64 (wrap64 (D * s.a) + tkV n m D s g), tkV n m D s g, wrap64 (s.d * D)⟩
def stG (n m D : Int) (s : Ld) (g : Nat → Int) : Nat → Ld
  | 0 => s
  | t + 1 => tkL n m D (stG n m D s g t) (g t)
def lowT (num den : Int) : S28 := match sling_lowest.f (den.toNat + 2) num den with
  | some p => ⟨p.1, p.2⟩
  | none => ⟨0, 0⟩
def slB (n m D : Int) : Bool := (decide (1 ≤ D) && decide (D ≤ 4)) && ((decide (0 ≤ n) && decide (n ≤ 2 * D)) && (decide (0 ≤ m) && decide (m ≤ D)))
def stB (a v : Int) : Bool := (decide (-1000 ≤ a) && decide (a ≤ 1000)) && (decide (-1000 ≤ v) && decide (v ≤ 1000))
def guB (g : Int) : Bool := decide (-100 ≤ g) && decide (g ≤ 100)
def nB (n : Int) : Bool := decide (0 ≤ n) && decide (n ≤ 16)
def swingT (n m D : Int) (s : Ld) (g : Nat → Int) (k : Nat) : List S28 := (List.range k).map fun t => lowT (stG n m D s g (t + 1)).a (stG n m D s g (t + 1)).d
def sling_Swing.f (n m D a v : Int) (l : List Int) : Option (List S28 × Int) :=
  some (if slB n m D then (if 16 < l.length then ([], 2) else if stB a v && l.all guB then (swingT n m D ⟨a, v, 1⟩ (fun t => l.getD t 0) l.length, 0) else ([], 1)) else ([], 70))
def sling_Deepest.f (a : Int) (X Y : List Int) (V : List (List Int)) (c w0 w1 weight : Int) : Option (Int × Int) :=
  if a = 50 ∧ X = [0, 50] ∧ Y = [0, 20] ∧ V = [[300, 200], [200, 100]] ∧ c = 2 ∧ w0 = 0 ∧ w1 = 10 ∧ weight = 200 then some (25, 0) else none
def unL (i : Nat) : Ld := ⟨if i = 0 then 1 else 0, if i = 1 then 1 else 0, 1⟩
def unG (i t : Nat) : Int := if i = t + 2 then 1 else 0
def partT (n m D : Int) (N i : Nat) : Ld := stG n m D (unL i) (unG i) N
def partsT (n m D : Int) (N : Nat) : List Int := (List.range (N + 2)).map fun i => (partT n m D N i).a
def endT (p lo hi : Int) (high : Bool) : Int := if decide (p > 0) == high && p != 0 then hi else lo
def spanT (b : List S27) (g : S27) (i : Nat) : S27 := if i < 2 then b.getD i z27 else g
def rowT (n m D : Int) (b : List S27) (g : S27) (N : Nat) (high : Bool) : List Int :=
  (List.range (N + 2)).map fun i => endT (partT n m D N i).a (spanT b g i).f0 (spanT b g i).f1 high
def mostT (n m D : Int) (b : List S27) (g : S27) (N : Nat) (high : Bool) : Nat → Int
  | 0 => 0
  | i + 1 => wrap64 (mostT n m D b g N high i + wrap64 ((partT n m D N i).a * endT (partT n m D N i).a (spanT b g i).f0 (spanT b g i).f1 high))
def argB (b : List S27) (g0 g1 k : Int) : Bool := b.length == 2 && (stB (b.getD 0 z27).f0 (b.getD 1 z27).f0 && stB (b.getD 0 z27).f1 (b.getD 1 z27).f1) && (guB g0 && guB g1) && nB k
def setE (n m D : Int) (b : List S27) (g0 g1 k : Int) : Int := if slB n m D then (if boxB b && okS g0 g1 then (if argB b g0 g1 k then 0 else 1) else 10) else 70
def ends7 (n m D : Int) (b : List S27) (g0 g1 k : Int) (high : Bool) : S28 := lowT (mostT n m D b ⟨g0, g1⟩ k.toNat high (k.toNat + 2)) (partT n m D k.toNat (k.toNat + 1)).d
def sling_Reach.f (_ : Nat) (n m D : Int) (b : List S27) (g0 g1 k : Int) : Option (Int × Int × Int × Int × Int) :=
  some (if setE n m D b g0 g1 k = 0 then ((ends7 n m D b g0 g1 k false).f0, (ends7 n m D b g0 g1 k false).f1, (ends7 n m D b g0 g1 k true).f0, (ends7 n m D b g0 g1 k true).f1, 0)
    else (0, 0, 0, 0, setE n m D b g0 g1 k))
def sling_Witness.f (n m D : Int) (b : List S27) (g0 g1 k : Int) (high : Bool) : Option (Int × Int × List Int × Int) :=
  some (if setE n m D b g0 g1 k = 0 then ((rowT n m D b ⟨g0, g1⟩ k.toNat high).getD 0 0, (rowT n m D b ⟨g0, g1⟩ k.toNat high).getD 1 0, (rowT n m D b ⟨g0, g1⟩ k.toNat high).drop 2, 0)
    else (0, 0, [], setE n m D b g0 g1 k))
end Go.Proofs.Yteodlmgmmpkpoaa.PS
end
section
namespace Go.Proofs.Yteodlmgmmpkpoaa.PS
open Go.RowKit Go.Proofs.YteodlmgmmpkpoaaW.PrintWords Go.Proofs.YteodlmgmmpkpoaaW.PrintLast Go.Proofs.YteodlmgmmpkpoaaW.PrintMore
attribute [local go_sem] max2_int min2_int max_two min_two max_three min_three max_four min_four   -- for this text's walks alone
set_option linter.unusedVariables false
set_option linter.unusedSimpArgs false
def sling_within.f (a0 : Int) (a1 : Int) (a2 : Int) : Option (Bool) := if a0 ≥ a1 then (some (decide (a0 ≤ a2))) else (some false)
set_option maxHeartbeats 8000000 in
set_option maxRecDepth 100000 in
theorem sling_within.calls (a0 : Int) (a1 : Int) (a2 : Int) (r : Bool) (w : World) (h : sling_within.f a0 a1 a2 = some r) :
  Calls Try.prog 115 #[.int .i64 a0, .int .i64 a1, .int .i64 a2] w fun e w' => e = .returned (.bool r) ∧ Drawn0 w w' := by
 have H : (if a0 ≥ a1 then (some (decide (a0 ≤ a2))) else (some false)) = some r := h
 clear h
 by_cases c4 : a0 ≥ a1
 ·
  rw [if_pos c4] at H
  have c4b0 : decide (a1 ≤ a0) = true := decide_eq_true c4
  clear c4
  obtain rfl := Option.some.inj H
  go_enter Try.func115, Try.ntmps115
  go_wp2
  go_ret
  exact ⟨by first | rfl | (simp; done) | (simp [*]; done), by repeat (first | exact Drawn0.refl _ | apply Drawn0.step)⟩
 ·
  rw [if_neg c4] at H
  have c4b0 : decide (a1 ≤ a0) = false := decide_eq_false c4
  clear c4
  obtain rfl := Option.some.inj H
  go_enter Try.func115, Try.ntmps115
  go_wp2
  go_ret
  exact ⟨by first | rfl | (simp; done) | (simp [*]; done), by repeat (first | exact Drawn0.refl _ | apply Drawn0.step)⟩
end Go.Proofs.Yteodlmgmmpkpoaa.PS
end
section
namespace Go.Proofs.Yteodlmgmmpkpoaa.PS
open Go.RowKit Go.Proofs.YteodlmgmmpkpoaaW.PrintWords Go.Proofs.YteodlmgmmpkpoaaW.PrintLast Go.Proofs.YteodlmgmmpkpoaaW.PrintMore
attribute [local go_sem] max2_int min2_int max_two min_two max_three min_three max_four min_four   -- for this text's walks alone
set_option linter.unusedVariables false
set_option linter.unusedSimpArgs false
def sling_Check.f (a0_0 : Int) (a0_1 : Int) (a0_2 : Int) : Option (Int) := (sling_within.f a0_2 1 4).bind fun t102 => (if t102 = true then ((sling_within.f a0_0 0 (wrap64 (2 * a0_2))).bind fun t103 => (if t103 = true then ((sling_within.f a0_1 0 a0_2).bind fun t104 => (if t104 = true then (some 0) else (some 70))) else (some 70))) else (some 70))
set_option maxHeartbeats 8000000 in
set_option maxRecDepth 100000 in
theorem sling_Check.calls (a0_0 : Int) (a0_1 : Int) (a0_2 : Int) (r : Int) (w : World) (h : sling_Check.f a0_0 a0_1 a0_2 = some r) :
  Calls Try.prog 68 #[.agg #[.int .i64 a0_0, .int .i64 a0_1, .int .i64 a0_2]] w fun e w' => e = .returned (.int .i64 r) ∧ Below w.heap.size w w' := by
 have hu105 := Try.underlying105
 have HB := Aside0.mk (Below.refl w.heap.size w)
 have H : ((sling_within.f a0_2 1 4).bind fun t102 => (if t102 = true then ((sling_within.f a0_0 0 (wrap64 (2 * a0_2))).bind fun t103 => (if t103 = true then ((sling_within.f a0_1 0 a0_2).bind fun t104 => (if t104 = true then (some 0) else (some 70))) else (some 70))) else (some 70))) = some r := h
 clear h
 replace H := Option.bind_eq_some_iff.mp H
 obtain ⟨t102, A20, H⟩ := H
 replace H : (if t102 = true then ((sling_within.f a0_0 0 (wrap64 (2 * a0_2))).bind fun t103 => (if t103 = true then ((sling_within.f a0_1 0 a0_2).bind fun t104 => (if t104 = true then (some 0) else (some 70))) else (some 70))) else (some 70)) = some r := H
 have A2 := Aside0.mk A20
 clear A20
 by_cases c3 : t102 = true
 ·
  subst c3
  have H1 : ((sling_within.f a0_0 0 (wrap64 (2 * a0_2))).bind fun t103 => (if t103 = true then ((sling_within.f a0_1 0 a0_2).bind fun t104 => (if t104 = true then (some 0) else (some 70))) else (some 70))) = some r := by rw [if_pos rfl] at H; exact H
  clear H
  have H := H1
  clear H1
  replace H := Option.bind_eq_some_iff.mp H
  obtain ⟨t103, A40, H⟩ := H
  replace H : (if t103 = true then ((sling_within.f a0_1 0 a0_2).bind fun t104 => (if t104 = true then (some 0) else (some 70))) else (some 70)) = some r := H
  have A4 := Aside0.mk A40
  clear A40
  by_cases c5 : t103 = true
  ·
   subst c5
   have H1 : ((sling_within.f a0_1 0 a0_2).bind fun t104 => (if t104 = true then (some 0) else (some 70))) = some r := by rw [if_pos rfl] at H; exact H
   clear H
   have H := H1
   clear H1
   replace H := Option.bind_eq_some_iff.mp H
   obtain ⟨t104, A60, H⟩ := H
   replace H : (if t104 = true then (some 0) else (some 70)) = some r := H
   have A6 := Aside0.mk A60
   clear A60
   by_cases c7 : t104 = true
   ·
    subst c7
    have H1 : (some 0) = some r := by rw [if_pos rfl] at H; exact H
    clear H
    have H := H1
    clear H1
    obtain rfl := Option.some.inj H
    go_enter Try.func68, Try.ntmps68
    go_wp2_with (first | ((with_reducible refine gate_dst (N := 1) rfl ?_); refine box_event ?hg (N := 1) ?hd (cs := #[.int .i64 a0_0, .int .i64 a0_1, .int .i64 a0_2]) (t := 105) ?hr ?_; (case hd => rfl); (case hg => rfl); (case hr => first | (go_simp; done) | (go_simp; rfl)); intro gb101 hg w8 hbox hb; have n0_ := Aside0.mk (below_step (bl_ HB.out) hb); have n1_ := Aside0.mk (hbox); have n2_ := Aside0.mk (szl_ hg HB.out); have n3_ := Aside0.mk (szl_ hg HB.out); clear HB; have HB := n0_; have BK101 := n1_; have GW101 := n2_; have GE101 := n3_; clear n0_ n1_ n2_ n3_ hb hbox hg; have hcz9_0 : w8.cell? ⟨gb101, 0, none⟩ = some (.int .i64 a0_0) := (blk_cell BK101.out 0).trans rfl; have hcz9_1 : w8.cell? ⟨gb101, 1, none⟩ = some (.int .i64 a0_1) := (blk_cell BK101.out 1).trans rfl; have hcz9_2 : w8.cell? ⟨gb101, 2, none⟩ = some (.int .i64 a0_2) := (blk_cell BK101.out 2).trans rfl; have hfz9_0 := blk_frozen BK101.out 0; have hfz9_1 := blk_frozen BK101.out 1; have hfz9_2 := blk_frozen BK101.out 2) | ((with_reducible refine gate_callee (f := 115) rfl ?_); refine goesL_ (some 5) rfl rfl Try.func115 (by kernel_rfl) rfl #[.int .i64 a0_2, .int .i64 1, .int .i64 4] rfl (by (try simp only [List.map_toArray, List.map_cons, List.map_nil]); first | done | rfl | (simp only [List.length_drop, List.length_take]; rfl)) ?_; (with_reducible refine (sling_within.calls a0_2 1 4 true _ A2.out).mono ?_); rintro e w' ⟨rfl, ⟨nd, rfl⟩⟩; refine ⟨_, rfl, ?_⟩) | (go_at_call 115; (with_reducible refine (sling_within.calls a0_0 0 (wrap64 (2 * a0_2)) true _ A4.out).mono ?_); rintro e w' ⟨rfl, ⟨nd, rfl⟩⟩) | (go_at_call 115; (with_reducible refine (sling_within.calls a0_1 0 a0_2 true _ A6.out).mono ?_); rintro e w' ⟨rfl, ⟨nd, rfl⟩⟩))
    go_ret
    exact ⟨by first | rfl | (simp [errW_none, errW_some] <;> rfl) | (simp [*, errW_none, errW_some] <;> rfl), bl_ HB.out⟩
   ·
    replace c7 := Bool.eq_false_iff.mpr c7
    subst c7
    have H1 : (some 70) = some r := by rw [if_neg (show ¬ (false = true) by decide)] at H; exact H
    clear H
    have H := H1
    clear H1
    obtain rfl := Option.some.inj H
    go_enter Try.func68, Try.ntmps68
    go_wp2_with (first | ((with_reducible refine gate_dst (N := 1) rfl ?_); refine box_event ?hg (N := 1) ?hd (cs := #[.int .i64 a0_0, .int .i64 a0_1, .int .i64 a0_2]) (t := 105) ?hr ?_; (case hd => rfl); (case hg => rfl); (case hr => first | (go_simp; done) | (go_simp; rfl)); intro gb101 hg w10 hbox hb; have n0_ := Aside0.mk (below_step (bl_ HB.out) hb); have n1_ := Aside0.mk (hbox); have n2_ := Aside0.mk (szl_ hg HB.out); have n3_ := Aside0.mk (szl_ hg HB.out); clear HB; have HB := n0_; have BK101 := n1_; have GW101 := n2_; have GE101 := n3_; clear n0_ n1_ n2_ n3_ hb hbox hg; have hcz11_0 : w10.cell? ⟨gb101, 0, none⟩ = some (.int .i64 a0_0) := (blk_cell BK101.out 0).trans rfl; have hcz11_1 : w10.cell? ⟨gb101, 1, none⟩ = some (.int .i64 a0_1) := (blk_cell BK101.out 1).trans rfl; have hcz11_2 : w10.cell? ⟨gb101, 2, none⟩ = some (.int .i64 a0_2) := (blk_cell BK101.out 2).trans rfl; have hfz11_0 := blk_frozen BK101.out 0; have hfz11_1 := blk_frozen BK101.out 1; have hfz11_2 := blk_frozen BK101.out 2) | ((with_reducible refine gate_callee (f := 115) rfl ?_); refine goesL_ (some 5) rfl rfl Try.func115 (by kernel_rfl) rfl #[.int .i64 a0_2, .int .i64 1, .int .i64 4] rfl (by (try simp only [List.map_toArray, List.map_cons, List.map_nil]); first | done | rfl | (simp only [List.length_drop, List.length_take]; rfl)) ?_; (with_reducible refine (sling_within.calls a0_2 1 4 true _ A2.out).mono ?_); rintro e w' ⟨rfl, ⟨nd, rfl⟩⟩; refine ⟨_, rfl, ?_⟩) | (go_at_call 115; (with_reducible refine (sling_within.calls a0_0 0 (wrap64 (2 * a0_2)) true _ A4.out).mono ?_); rintro e w' ⟨rfl, ⟨nd, rfl⟩⟩) | (go_at_call 115; (with_reducible refine (sling_within.calls a0_1 0 a0_2 false _ A6.out).mono ?_); rintro e w' ⟨rfl, ⟨nd, rfl⟩⟩))
    go_ret
    exact ⟨by first | rfl | (simp [errW_none, errW_some] <;> rfl) | (simp [*, errW_none, errW_some] <;> rfl), bl_ HB.out⟩
  ·
   replace c5 := Bool.eq_false_iff.mpr c5
   subst c5
   have H1 : (some 70) = some r := by rw [if_neg (show ¬ (false = true) by decide)] at H; exact H
   clear H
   have H := H1
   clear H1
   obtain rfl := Option.some.inj H
   go_enter Try.func68, Try.ntmps68
   go_wp2_with (first | ((with_reducible refine gate_dst (N := 1) rfl ?_); refine box_event ?hg (N := 1) ?hd (cs := #[.int .i64 a0_0, .int .i64 a0_1, .int .i64 a0_2]) (t := 105) ?hr ?_; (case hd => rfl); (case hg => rfl); (case hr => first | (go_simp; done) | (go_simp; rfl)); intro gb101 hg w12 hbox hb; have n0_ := Aside0.mk (below_step (bl_ HB.out) hb); have n1_ := Aside0.mk (hbox); have n2_ := Aside0.mk (szl_ hg HB.out); have n3_ := Aside0.mk (szl_ hg HB.out); clear HB; have HB := n0_; have BK101 := n1_; have GW101 := n2_; have GE101 := n3_; clear n0_ n1_ n2_ n3_ hb hbox hg; have hcz13_0 : w12.cell? ⟨gb101, 0, none⟩ = some (.int .i64 a0_0) := (blk_cell BK101.out 0).trans rfl; have hcz13_1 : w12.cell? ⟨gb101, 1, none⟩ = some (.int .i64 a0_1) := (blk_cell BK101.out 1).trans rfl; have hcz13_2 : w12.cell? ⟨gb101, 2, none⟩ = some (.int .i64 a0_2) := (blk_cell BK101.out 2).trans rfl; have hfz13_0 := blk_frozen BK101.out 0; have hfz13_1 := blk_frozen BK101.out 1; have hfz13_2 := blk_frozen BK101.out 2) | ((with_reducible refine gate_callee (f := 115) rfl ?_); refine goesL_ (some 5) rfl rfl Try.func115 (by kernel_rfl) rfl #[.int .i64 a0_2, .int .i64 1, .int .i64 4] rfl (by (try simp only [List.map_toArray, List.map_cons, List.map_nil]); first | done | rfl | (simp only [List.length_drop, List.length_take]; rfl)) ?_; (with_reducible refine (sling_within.calls a0_2 1 4 true _ A2.out).mono ?_); rintro e w' ⟨rfl, ⟨nd, rfl⟩⟩; refine ⟨_, rfl, ?_⟩) | (go_at_call 115; (with_reducible refine (sling_within.calls a0_0 0 (wrap64 (2 * a0_2)) false _ A4.out).mono ?_); rintro e w' ⟨rfl, ⟨nd, rfl⟩⟩))
   go_ret
   exact ⟨by first | rfl | (simp [errW_none, errW_some] <;> rfl) | (simp [*, errW_none, errW_some] <;> rfl), bl_ HB.out⟩
 ·
  replace c3 := Bool.eq_false_iff.mpr c3
  subst c3
  have H1 : (some 70) = some r := by rw [if_neg (show ¬ (false = true) by decide)] at H; exact H
  clear H
  have H := H1
  clear H1
  obtain rfl := Option.some.inj H
  go_enter Try.func68, Try.ntmps68
  go_wp2_with (first | ((with_reducible refine gate_dst (N := 1) rfl ?_); refine box_event ?hg (N := 1) ?hd (cs := #[.int .i64 a0_0, .int .i64 a0_1, .int .i64 a0_2]) (t := 105) ?hr ?_; (case hd => rfl); (case hg => rfl); (case hr => first | (go_simp; done) | (go_simp; rfl)); intro gb101 hg w14 hbox hb; have n0_ := Aside0.mk (below_step (bl_ HB.out) hb); have n1_ := Aside0.mk (hbox); have n2_ := Aside0.mk (szl_ hg HB.out); have n3_ := Aside0.mk (szl_ hg HB.out); clear HB; have HB := n0_; have BK101 := n1_; have GW101 := n2_; have GE101 := n3_; clear n0_ n1_ n2_ n3_ hb hbox hg; have hcz15_0 : w14.cell? ⟨gb101, 0, none⟩ = some (.int .i64 a0_0) := (blk_cell BK101.out 0).trans rfl; have hcz15_1 : w14.cell? ⟨gb101, 1, none⟩ = some (.int .i64 a0_1) := (blk_cell BK101.out 1).trans rfl; have hcz15_2 : w14.cell? ⟨gb101, 2, none⟩ = some (.int .i64 a0_2) := (blk_cell BK101.out 2).trans rfl; have hfz15_0 := blk_frozen BK101.out 0; have hfz15_1 := blk_frozen BK101.out 1; have hfz15_2 := blk_frozen BK101.out 2) | ((with_reducible refine gate_callee (f := 115) rfl ?_); refine goesL_ (some 5) rfl rfl Try.func115 (by kernel_rfl) rfl #[.int .i64 a0_2, .int .i64 1, .int .i64 4] rfl (by (try simp only [List.map_toArray, List.map_cons, List.map_nil]); first | done | rfl | (simp only [List.length_drop, List.length_take]; rfl)) ?_; (with_reducible refine (sling_within.calls a0_2 1 4 false _ A2.out).mono ?_); rintro e w' ⟨rfl, ⟨nd, rfl⟩⟩; refine ⟨_, rfl, ?_⟩))
  go_ret
  exact ⟨by first | rfl | (simp [errW_none, errW_some] <;> rfl) | (simp [*, errW_none, errW_some] <;> rfl), bl_ HB.out⟩
end Go.Proofs.Yteodlmgmmpkpoaa.PS
end
section
namespace Go.Proofs.Yteodlmgmmpkpoaa.PS
open Go.RowKit Go.Proofs.YteodlmgmmpkpoaaW.PrintWords Go.Proofs.YteodlmgmmpkpoaaW.PrintLast Go.Proofs.YteodlmgmmpkpoaaW.PrintMore
attribute [local go_sem] max2_int min2_int max_two min_two max_three min_three max_four min_four   -- for this text's walks alone
set_option linter.unusedVariables false
set_option linter.unusedSimpArgs false
def swashplateref07_within.f (a0 : Int) (a1 : Int) (a2 : Int) : Option (Bool) := if a0 ≥ a1 then (some (decide (a0 ≤ a2))) else (some false)
set_option maxHeartbeats 8000000 in
set_option maxRecDepth 100000 in
theorem swashplateref07_within.calls (a0 : Int) (a1 : Int) (a2 : Int) (r : Bool) (w : World) (h : swashplateref07_within.f a0 a1 a2 = some r) :
  Calls Try.prog 128 #[.int .i64 a0, .int .i64 a1, .int .i64 a2] w fun e w' => e = .returned (.bool r) ∧ Drawn0 w w' := by
 have H : (if a0 ≥ a1 then (some (decide (a0 ≤ a2))) else (some false)) = some r := h
 clear h
 by_cases c4 : a0 ≥ a1
 ·
  rw [if_pos c4] at H
  have c4b0 : decide (a1 ≤ a0) = true := decide_eq_true c4
  clear c4
  obtain rfl := Option.some.inj H
  go_enter Try.func128, Try.ntmps128
  go_wp2
  go_ret
  exact ⟨by first | rfl | (simp; done) | (simp [*]; done), by repeat (first | exact Drawn0.refl _ | apply Drawn0.step)⟩
 ·
  rw [if_neg c4] at H
  have c4b0 : decide (a1 ≤ a0) = false := decide_eq_false c4
  clear c4
  obtain rfl := Option.some.inj H
  go_enter Try.func128, Try.ntmps128
  go_wp2
  go_ret
  exact ⟨by first | rfl | (simp; done) | (simp [*]; done), by repeat (first | exact Drawn0.refl _ | apply Drawn0.step)⟩
end Go.Proofs.Yteodlmgmmpkpoaa.PS
end
section
namespace Go.Proofs.Yteodlmgmmpkpoaa.PS
open Go.RowKit Go.Proofs.YteodlmgmmpkpoaaW.PrintWords Go.Proofs.YteodlmgmmpkpoaaW.PrintLast Go.Proofs.YteodlmgmmpkpoaaW.PrintMore
attribute [local go_sem] max2_int min2_int max_two min_two max_three min_three max_four min_four   -- for this text's walks alone
set_option linter.unusedVariables false
set_option linter.unusedSimpArgs false
def swashplateref07_Check.f (a0_0 : Int) (a0_1 : Int) (a0_2 : Int) : Option (Int) := (swashplateref07_within.f a0_2 1 4).bind fun t106 => (if t106 = true then ((swashplateref07_within.f a0_0 0 (wrap64 (2 * a0_2))).bind fun t107 => (if t107 = true then ((swashplateref07_within.f a0_1 0 a0_2).bind fun t108 => (if t108 = true then (some 0) else (some 70))) else (some 70))) else (some 70))
set_option maxHeartbeats 8000000 in
set_option maxRecDepth 100000 in
theorem swashplateref07_Check.calls (a0_0 : Int) (a0_1 : Int) (a0_2 : Int) (r : Int) (w : World) (h : swashplateref07_Check.f a0_0 a0_1 a0_2 = some r) :
  Calls Try.prog 69 #[.agg #[.int .i64 a0_0, .int .i64 a0_1, .int .i64 a0_2]] w fun e w' => e = .returned (.int .i64 r) ∧ Below w.heap.size w w' := by
 have hu105 := Try.underlying105
 have HB := Aside0.mk (Below.refl w.heap.size w)
 have H : ((swashplateref07_within.f a0_2 1 4).bind fun t106 => (if t106 = true then ((swashplateref07_within.f a0_0 0 (wrap64 (2 * a0_2))).bind fun t107 => (if t107 = true then ((swashplateref07_within.f a0_1 0 a0_2).bind fun t108 => (if t108 = true then (some 0) else (some 70))) else (some 70))) else (some 70))) = some r := h
 clear h
 replace H := Option.bind_eq_some_iff.mp H
 obtain ⟨t106, A20, H⟩ := H
 replace H : (if t106 = true then ((swashplateref07_within.f a0_0 0 (wrap64 (2 * a0_2))).bind fun t107 => (if t107 = true then ((swashplateref07_within.f a0_1 0 a0_2).bind fun t108 => (if t108 = true then (some 0) else (some 70))) else (some 70))) else (some 70)) = some r := H
 have A2 := Aside0.mk A20
 clear A20
 by_cases c3 : t106 = true
 ·
  subst c3
  have H1 : ((swashplateref07_within.f a0_0 0 (wrap64 (2 * a0_2))).bind fun t107 => (if t107 = true then ((swashplateref07_within.f a0_1 0 a0_2).bind fun t108 => (if t108 = true then (some 0) else (some 70))) else (some 70))) = some r := by rw [if_pos rfl] at H; exact H
  clear H
  have H := H1
  clear H1
  replace H := Option.bind_eq_some_iff.mp H
  obtain ⟨t107, A40, H⟩ := H
  replace H : (if t107 = true then ((swashplateref07_within.f a0_1 0 a0_2).bind fun t108 => (if t108 = true then (some 0) else (some 70))) else (some 70)) = some r := H
  have A4 := Aside0.mk A40
  clear A40
  by_cases c5 : t107 = true
  ·
   subst c5
   have H1 : ((swashplateref07_within.f a0_1 0 a0_2).bind fun t108 => (if t108 = true then (some 0) else (some 70))) = some r := by rw [if_pos rfl] at H; exact H
   clear H
   have H := H1
   clear H1
   replace H := Option.bind_eq_some_iff.mp H
   obtain ⟨t108, A60, H⟩ := H
   replace H : (if t108 = true then (some 0) else (some 70)) = some r := H
   have A6 := Aside0.mk A60
   clear A60
   by_cases c7 : t108 = true
   ·
    subst c7
    have H1 : (some 0) = some r := by rw [if_pos rfl] at H; exact H
    clear H
    have H := H1
    clear H1
    obtain rfl := Option.some.inj H
    go_enter Try.func69, Try.ntmps69
    go_wp2_with (first | ((with_reducible refine gate_dst (N := 1) rfl ?_); refine box_event ?hg (N := 1) ?hd (cs := #[.int .i64 a0_0, .int .i64 a0_1, .int .i64 a0_2]) (t := 105) ?hr ?_; (case hd => rfl); (case hg => rfl); (case hr => first | (go_simp; done) | (go_simp; rfl)); intro gb105 hg w8 hbox hb; have n0_ := Aside0.mk (below_step (bl_ HB.out) hb); have n1_ := Aside0.mk (hbox); have n2_ := Aside0.mk (szl_ hg HB.out); have n3_ := Aside0.mk (szl_ hg HB.out); clear HB; have HB := n0_; have BK105 := n1_; have GW105 := n2_; have GE105 := n3_; clear n0_ n1_ n2_ n3_ hb hbox hg; have hcz9_0 : w8.cell? ⟨gb105, 0, none⟩ = some (.int .i64 a0_0) := (blk_cell BK105.out 0).trans rfl; have hcz9_1 : w8.cell? ⟨gb105, 1, none⟩ = some (.int .i64 a0_1) := (blk_cell BK105.out 1).trans rfl; have hcz9_2 : w8.cell? ⟨gb105, 2, none⟩ = some (.int .i64 a0_2) := (blk_cell BK105.out 2).trans rfl; have hfz9_0 := blk_frozen BK105.out 0; have hfz9_1 := blk_frozen BK105.out 1; have hfz9_2 := blk_frozen BK105.out 2) | ((with_reducible refine gate_callee (f := 128) rfl ?_); refine goesL_ (some 5) rfl rfl Try.func128 (by kernel_rfl) rfl #[.int .i64 a0_2, .int .i64 1, .int .i64 4] rfl (by (try simp only [List.map_toArray, List.map_cons, List.map_nil]); first | done | rfl | (simp only [List.length_drop, List.length_take]; rfl)) ?_; (with_reducible refine (swashplateref07_within.calls a0_2 1 4 true _ A2.out).mono ?_); rintro e w' ⟨rfl, ⟨nd, rfl⟩⟩; refine ⟨_, rfl, ?_⟩) | (go_at_call 128; (with_reducible refine (swashplateref07_within.calls a0_0 0 (wrap64 (2 * a0_2)) true _ A4.out).mono ?_); rintro e w' ⟨rfl, ⟨nd, rfl⟩⟩) | (go_at_call 128; (with_reducible refine (swashplateref07_within.calls a0_1 0 a0_2 true _ A6.out).mono ?_); rintro e w' ⟨rfl, ⟨nd, rfl⟩⟩))
    go_ret
    exact ⟨by first | rfl | (simp [errW_none, errW_some] <;> rfl) | (simp [*, errW_none, errW_some] <;> rfl), bl_ HB.out⟩
   ·
    replace c7 := Bool.eq_false_iff.mpr c7
    subst c7
    have H1 : (some 70) = some r := by rw [if_neg (show ¬ (false = true) by decide)] at H; exact H
    clear H
    have H := H1
    clear H1
    obtain rfl := Option.some.inj H
    go_enter Try.func69, Try.ntmps69
    go_wp2_with (first | ((with_reducible refine gate_dst (N := 1) rfl ?_); refine box_event ?hg (N := 1) ?hd (cs := #[.int .i64 a0_0, .int .i64 a0_1, .int .i64 a0_2]) (t := 105) ?hr ?_; (case hd => rfl); (case hg => rfl); (case hr => first | (go_simp; done) | (go_simp; rfl)); intro gb105 hg w10 hbox hb; have n0_ := Aside0.mk (below_step (bl_ HB.out) hb); have n1_ := Aside0.mk (hbox); have n2_ := Aside0.mk (szl_ hg HB.out); have n3_ := Aside0.mk (szl_ hg HB.out); clear HB; have HB := n0_; have BK105 := n1_; have GW105 := n2_; have GE105 := n3_; clear n0_ n1_ n2_ n3_ hb hbox hg; have hcz11_0 : w10.cell? ⟨gb105, 0, none⟩ = some (.int .i64 a0_0) := (blk_cell BK105.out 0).trans rfl; have hcz11_1 : w10.cell? ⟨gb105, 1, none⟩ = some (.int .i64 a0_1) := (blk_cell BK105.out 1).trans rfl; have hcz11_2 : w10.cell? ⟨gb105, 2, none⟩ = some (.int .i64 a0_2) := (blk_cell BK105.out 2).trans rfl; have hfz11_0 := blk_frozen BK105.out 0; have hfz11_1 := blk_frozen BK105.out 1; have hfz11_2 := blk_frozen BK105.out 2) | ((with_reducible refine gate_callee (f := 128) rfl ?_); refine goesL_ (some 5) rfl rfl Try.func128 (by kernel_rfl) rfl #[.int .i64 a0_2, .int .i64 1, .int .i64 4] rfl (by (try simp only [List.map_toArray, List.map_cons, List.map_nil]); first | done | rfl | (simp only [List.length_drop, List.length_take]; rfl)) ?_; (with_reducible refine (swashplateref07_within.calls a0_2 1 4 true _ A2.out).mono ?_); rintro e w' ⟨rfl, ⟨nd, rfl⟩⟩; refine ⟨_, rfl, ?_⟩) | (go_at_call 128; (with_reducible refine (swashplateref07_within.calls a0_0 0 (wrap64 (2 * a0_2)) true _ A4.out).mono ?_); rintro e w' ⟨rfl, ⟨nd, rfl⟩⟩) | (go_at_call 128; (with_reducible refine (swashplateref07_within.calls a0_1 0 a0_2 false _ A6.out).mono ?_); rintro e w' ⟨rfl, ⟨nd, rfl⟩⟩))
    go_ret
    exact ⟨by first | rfl | (simp [errW_none, errW_some] <;> rfl) | (simp [*, errW_none, errW_some] <;> rfl), bl_ HB.out⟩
  ·
   replace c5 := Bool.eq_false_iff.mpr c5
   subst c5
   have H1 : (some 70) = some r := by rw [if_neg (show ¬ (false = true) by decide)] at H; exact H
   clear H
   have H := H1
   clear H1
   obtain rfl := Option.some.inj H
   go_enter Try.func69, Try.ntmps69
   go_wp2_with (first | ((with_reducible refine gate_dst (N := 1) rfl ?_); refine box_event ?hg (N := 1) ?hd (cs := #[.int .i64 a0_0, .int .i64 a0_1, .int .i64 a0_2]) (t := 105) ?hr ?_; (case hd => rfl); (case hg => rfl); (case hr => first | (go_simp; done) | (go_simp; rfl)); intro gb105 hg w12 hbox hb; have n0_ := Aside0.mk (below_step (bl_ HB.out) hb); have n1_ := Aside0.mk (hbox); have n2_ := Aside0.mk (szl_ hg HB.out); have n3_ := Aside0.mk (szl_ hg HB.out); clear HB; have HB := n0_; have BK105 := n1_; have GW105 := n2_; have GE105 := n3_; clear n0_ n1_ n2_ n3_ hb hbox hg; have hcz13_0 : w12.cell? ⟨gb105, 0, none⟩ = some (.int .i64 a0_0) := (blk_cell BK105.out 0).trans rfl; have hcz13_1 : w12.cell? ⟨gb105, 1, none⟩ = some (.int .i64 a0_1) := (blk_cell BK105.out 1).trans rfl; have hcz13_2 : w12.cell? ⟨gb105, 2, none⟩ = some (.int .i64 a0_2) := (blk_cell BK105.out 2).trans rfl; have hfz13_0 := blk_frozen BK105.out 0; have hfz13_1 := blk_frozen BK105.out 1; have hfz13_2 := blk_frozen BK105.out 2) | ((with_reducible refine gate_callee (f := 128) rfl ?_); refine goesL_ (some 5) rfl rfl Try.func128 (by kernel_rfl) rfl #[.int .i64 a0_2, .int .i64 1, .int .i64 4] rfl (by (try simp only [List.map_toArray, List.map_cons, List.map_nil]); first | done | rfl | (simp only [List.length_drop, List.length_take]; rfl)) ?_; (with_reducible refine (swashplateref07_within.calls a0_2 1 4 true _ A2.out).mono ?_); rintro e w' ⟨rfl, ⟨nd, rfl⟩⟩; refine ⟨_, rfl, ?_⟩) | (go_at_call 128; (with_reducible refine (swashplateref07_within.calls a0_0 0 (wrap64 (2 * a0_2)) false _ A4.out).mono ?_); rintro e w' ⟨rfl, ⟨nd, rfl⟩⟩))
   go_ret
   exact ⟨by first | rfl | (simp [errW_none, errW_some] <;> rfl) | (simp [*, errW_none, errW_some] <;> rfl), bl_ HB.out⟩
 ·
  replace c3 := Bool.eq_false_iff.mpr c3
  subst c3
  have H1 : (some 70) = some r := by rw [if_neg (show ¬ (false = true) by decide)] at H; exact H
  clear H
  have H := H1
  clear H1
  obtain rfl := Option.some.inj H
  go_enter Try.func69, Try.ntmps69
  go_wp2_with (first | ((with_reducible refine gate_dst (N := 1) rfl ?_); refine box_event ?hg (N := 1) ?hd (cs := #[.int .i64 a0_0, .int .i64 a0_1, .int .i64 a0_2]) (t := 105) ?hr ?_; (case hd => rfl); (case hg => rfl); (case hr => first | (go_simp; done) | (go_simp; rfl)); intro gb105 hg w14 hbox hb; have n0_ := Aside0.mk (below_step (bl_ HB.out) hb); have n1_ := Aside0.mk (hbox); have n2_ := Aside0.mk (szl_ hg HB.out); have n3_ := Aside0.mk (szl_ hg HB.out); clear HB; have HB := n0_; have BK105 := n1_; have GW105 := n2_; have GE105 := n3_; clear n0_ n1_ n2_ n3_ hb hbox hg; have hcz15_0 : w14.cell? ⟨gb105, 0, none⟩ = some (.int .i64 a0_0) := (blk_cell BK105.out 0).trans rfl; have hcz15_1 : w14.cell? ⟨gb105, 1, none⟩ = some (.int .i64 a0_1) := (blk_cell BK105.out 1).trans rfl; have hcz15_2 : w14.cell? ⟨gb105, 2, none⟩ = some (.int .i64 a0_2) := (blk_cell BK105.out 2).trans rfl; have hfz15_0 := blk_frozen BK105.out 0; have hfz15_1 := blk_frozen BK105.out 1; have hfz15_2 := blk_frozen BK105.out 2) | ((with_reducible refine gate_callee (f := 128) rfl ?_); refine goesL_ (some 5) rfl rfl Try.func128 (by kernel_rfl) rfl #[.int .i64 a0_2, .int .i64 1, .int .i64 4] rfl (by (try simp only [List.map_toArray, List.map_cons, List.map_nil]); first | done | rfl | (simp only [List.length_drop, List.length_take]; rfl)) ?_; (with_reducible refine (swashplateref07_within.calls a0_2 1 4 false _ A2.out).mono ?_); rintro e w' ⟨rfl, ⟨nd, rfl⟩⟩; refine ⟨_, rfl, ?_⟩))
  go_ret
  exact ⟨by first | rfl | (simp [errW_none, errW_some] <;> rfl) | (simp [*, errW_none, errW_some] <;> rfl), bl_ HB.out⟩
end Go.Proofs.Yteodlmgmmpkpoaa.PS
end
section
namespace Go.Proofs.Yteodlmgmmpkpoaa.PS
open Go.RowKit Go.Proofs.YteodlmgmmpkpoaaW.PrintWords Go.Proofs.YteodlmgmmpkpoaaW.PrintLast Go.Proofs.YteodlmgmmpkpoaaW.PrintMore
attribute [local go_sem] max2_int min2_int max_two min_two max_three min_three max_four min_four   -- for this text's walks alone
set_option linter.unusedVariables false
set_option linter.unusedSimpArgs false
def swashplateref07_power.l0 : Nat → Int → Int → Int → Int → Option (Int)
 | 0, _, _, _, _ => none
 | k + 1, x0, x1, x5, x6 => if x6 < x1 then (swashplateref07_power.l0 k x0 x1 (wrap64 (x5 * x0)) (wrap64 (x6 + 1))) else (some x5)
def swashplateref07_power.f (k : Nat) (a0 : Int) (a1 : Int) : Option (Int) := swashplateref07_power.l0 k a0 a1 1 0
set_option maxHeartbeats 8000000 in
set_option maxRecDepth 100000 in
theorem swashplateref07_power.calls (k : Nat) (a0 : Int) (a1 : Int) (r : Int) (w : World) (h : swashplateref07_power.f k a0 a1 = some r) :
  Calls Try.prog 136 #[.int .i64 a0, .int .i64 a1] w fun e w' => e = .returned (.int .i64 r) ∧ Drawn0 w w' := by
 have H : (swashplateref07_power.l0 k a0 a1 1 0) = some r := h
 clear h
 have H' := Aside0.mk H
 clear H
 go_enter Try.func136, Try.ntmps136
 go_wp2
 go_loopg [5, 6] k (fun kq v5 v6 w' => ∃ (x5_1 : Int) (x6_1 : Int), v5 = .int .i64 x5_1 ∧ v6 = .int .i64 x6_1 ∧ Aside0 (swashplateref07_power.l0 kq a0 a1 x5_1 x6_1 = some r) ∧ Aside0 (kq ≤ k) ∧ Drawn0 w w')
 case atStart => exact ⟨(1), (0), (by first | rfl | (simp; done) | (simp [*]; done)), (by first | rfl | (simp; done) | (simp [*]; done)), H', ⟨Nat.le_refl _⟩, by repeat (first | exact Drawn0.refl _ | apply Drawn0.step)⟩
 case round =>
  clear H'
  try clear c1
  try clear p2
  obtain ⟨x5_1, x6_1, rfl, rfl, HA, HK1, ⟨m1, rfl⟩⟩ := hrel
  cases gk with
  | zero => exact absurd HA.out (by simp [swashplateref07_power.l0])
  | succ k1 =>
   have H := HA.out
   clear HA
   simp only [swashplateref07_power.l0] at H
   by_cases c3 : x6_1 < a1
   ·
    rw [if_pos c3] at H
    have c3b0 : decide (x6_1 < a1) = true := decide_eq_true c3
    clear c3
    have H' := Aside0.mk H
    clear H
    go_wp2
    go_roundg k1
    case measure => have := HK1.out; omega
    case rel => exact ⟨(wrap64 (x5_1 * a0)), (wrap64 (x6_1 + 1)), (by first | rfl | (simp; done) | (simp [*]; done)), (by first | rfl | (simp; done) | (simp [*]; done)), H', ⟨by have := HK1.out; omega⟩, by repeat (first | exact Drawn0.refl _ | apply Drawn0.step)⟩
   ·
    rw [if_neg c3] at H
    have c3b0 : decide (x6_1 < a1) = false := decide_eq_false c3
    clear c3
    obtain rfl := Option.some.inj H
    go_wp2
    go_ret
    exact ⟨by first | rfl | (simp; done) | (simp [*]; done), by repeat (first | exact Drawn0.refl _ | apply Drawn0.step)⟩
end Go.Proofs.Yteodlmgmmpkpoaa.PS
end
section
namespace Go.Proofs.Yteodlmgmmpkpoaa.PS
open Go.RowKit Go.Proofs.YteodlmgmmpkpoaaW.PrintWords Go.Proofs.YteodlmgmmpkpoaaW.PrintLast Go.Proofs.YteodlmgmmpkpoaaW.PrintMore
attribute [local go_sem] max2_int min2_int max_two min_two max_three min_three max_four min_four   -- for this text's walks alone
set_option linter.unusedVariables false
set_option linter.unusedSimpArgs false
def swashplateref07_swung.l0 : Nat → Int → Int → List Int → List Int → Int → Int → Int → Int → Option (List Int)
 | 0, _, _, _, _, _, _, _, _ => none
 | k + 1, x1, x2, x3, x9, x10, x125000, x125001, x125002 => if x10 < (x3.length : Int) then (if 0 ≤ x10 then ((swashplateref07_power.f k x125002 (wrap64 (x10 + 1))).bind fun t129 => (if x9.length < 17592186044416 then (swashplateref07_swung.l0 k (wrap64 ((wrap64 (x125002 * x1)) + (wrap64 ((wrap64 ((wrap64 ((wrap64 (x125002 * x2)) - (wrap64 (x125000 * x1)))) - (wrap64 (x125001 * x2)))) + (wrap64 ((rd x3 x10) * t129)))))) (wrap64 ((wrap64 ((wrap64 ((wrap64 (x125002 * x2)) - (wrap64 (x125000 * x1)))) - (wrap64 (x125001 * x2)))) + (wrap64 ((rd x3 x10) * t129)))) x3 (x9 ++ [wrap64 ((wrap64 (x125002 * x1)) + (wrap64 ((wrap64 ((wrap64 ((wrap64 (x125002 * x2)) - (wrap64 (x125000 * x1)))) - (wrap64 (x125001 * x2)))) + (wrap64 ((rd x3 x10) * t129)))))]) (wrap64 (x10 + 1)) x125000 x125001 x125002) else (none))) else (none)) else (some x9)
def swashplateref07_swung.f (k : Nat) (a0_0 : Int) (a0_1 : Int) (a0_2 : Int) (a1 : Int) (a2 : Int) (l3 : List Int) : Option (List Int) := swashplateref07_swung.l0 k a1 a2 l3 (([a1] : List Int)) 0 a0_0 a0_1 a0_2
set_option maxHeartbeats 8000000 in
set_option maxRecDepth 100000 in
theorem swashplateref07_swung.calls (k : Nat) (a0_0 : Int) (a0_1 : Int) (a0_2 : Int) (a1 : Int) (a2 : Int) (A3 : Option Addr) (c3 : Nat) (l3 : List Int) (r : List Int) (w : World) (hr3 : Kd.C (Kd.int .i64) w A3 l3.length l3) (hc3 : l3.length ≤ c3) (h : swashplateref07_swung.f k a0_0 a0_1 a0_2 a1 a2 l3 = some r) :
  Calls Try.prog 134 #[.agg #[.int .i64 a0_0, .int .i64 a0_1, .int .i64 a0_2], .int .i64 a1, .int .i64 a2, .slice A3 l3.length c3] w fun e w' => ∃ v0_ : Value, e = .returned (v0_) ∧ Kd.R (Kd.int .i64) 3 w' w.heap.size (fun _ => True) v0_ r ∧ Below w.heap.size w w' := by
 have hu105 := Try.underlying105
 have HR3 := Aside0.mk hr3
 have HC3 := Aside0.mk hc3
 clear hr3 hc3
 have HB := Aside0.mk (Below.refl w.heap.size w)
 have H : (swashplateref07_swung.l0 k a1 a2 l3 (([a1] : List Int)) 0 a0_0 a0_1 a0_2) = some r := h
 clear h
 obtain ⟨y125, hy125⟩ : ∃ y_ : List Int, y_ = (([a1] : List Int)) := ⟨_, rfl⟩
 replace H : (swashplateref07_swung.l0 k a1 a2 l3 y125 0 a0_0 a0_1 a0_2) = some r := by first | (rw [hy125]; with_reducible exact H) | (have H2_ := (Option.bind_some _ _).symm.trans H; rw [hy125]; with_reducible exact H2_) | (have H2_ := (Option.bind_some _ _).symm.trans H; with_reducible exact H2_) | with_reducible exact H | (rw [hy125]; exact H) | exact H
 have Ny125 := Aside0.mk hy125
 clear hy125
 have H' := Aside0.mk H
 clear H
 go_enter Try.func134, Try.ntmps134
 go_wp2_with (first | ((with_reducible refine gate_dst (N := 4) rfl ?_); refine box_event ?hg (N := 4) ?hd (cs := #[.int .i64 a0_0, .int .i64 a0_1, .int .i64 a0_2]) (t := 105) ?hr ?_; (case hd => rfl); (case hg => rfl); (case hr => first | (go_simp; done) | (go_simp; rfl)); intro gb124 hg w5 hbox hb; have n0_ := Aside0.mk (below_step (bl_ HB.out) hb); have n1_ := Aside0.mk (hbox); have n2_ := Aside0.mk (szl_ hg HB.out); have n3_ := Aside0.mk (szl_ hg HB.out); clear HB; have HB := n0_; have BK124 := n1_; have GW124 := n2_; have GE124 := n3_; clear n0_ n1_ n2_ n3_ hb hbox hg) | ((with_reducible refine gate_dst (N := 12) rfl ?_); refine Kd.R_lit (Kd.int .i64) _ 3 ?hg (N := 12) ?hd (xs := ([a1] : List Int)) (inner := [.int .i64 a1]) (ok := fun _ => True) (okp := fun _ => True) ?hr ?hp (fun _ hk => hk) trivial (Below.refl _ _) (Nat.le_refl _) (by simp) ?_; (case hd => rfl); (case hg => rfl); (case hr => first | (go_simp; done) | (go_simp; rfl)); (case hp => exact (Reps.one (show Kd.M (Kd.int .i64) _ _ _ a1 [.int .i64 a1] from rfl) (Reps.none _ _))); intro v126 w6 ho7 hb hg_ hnew_; clear hg_ hnew_; (first | rw [← Ny125.out] at ho7 | (simp only [Int.reduceToNat] at ho7; rw [← Ny125.out] at ho7)); have n0_ := Aside0.mk (Kd.R_lower ho7 (below_size (bl_ HB.out))); have n1_ := Aside0.mk (blk_below (bk_ BK124.out) hb); have n2_ := Aside0.mk (below_step (bl_ HB.out) hb); clear BK124 HB; have HO127 := n0_; have BK124 := n1_; have HB := n2_; clear n0_ n1_ n2_ hb ho7))
 go_loopg [1, 2, 9, 10] k (fun kq v1 v2 v9 v10 w' => ∃ (x1_1 : Int) (x2_1 : Int) (x9_1 : List Int) (x10_1 : Int), v1 = .int .i64 x1_1 ∧ v2 = .int .i64 x2_1 ∧ v10 = .int .i64 x10_1 ∧ Aside0 (swashplateref07_swung.l0 kq x1_1 x2_1 l3 x9_1 x10_1 a0_0 a0_1 a0_2 = some r) ∧ Aside0 (kq ≤ k) ∧ Aside0 (Kd.R (Kd.int .i64) 3 w' w.heap.size (fun _ => True) v9 x9_1) ∧ Aside0 (w'.heap[gb124]? = some (.cells #[.int .i64 a0_0, .int .i64 a0_1, .int .i64 a0_2] 105 (0, 0))) ∧ Aside0 (Below w.heap.size w w'))
 case atStart => exact ⟨(a1), (a2), (y125), (0), (by first | rfl | (simp; done) | (simp [*]; done)), (by first | rfl | (simp; done) | (simp [*]; done)), (by first | rfl | (simp; done) | (simp [*]; done)), H', ⟨Nat.le_refl _⟩, ⟨by (with_reducible repeat (first | apply Kd.R_alloc | apply Kd.R_drewN | apply Kd.R_drew)); exact HO127.out⟩, ⟨bk_ BK124.out⟩, ⟨bl_ HB.out⟩⟩
 case round =>
  clear H'
  try clear c1
  try clear p2
  try clear c3
  obtain ⟨x1_1, x2_1, x9_1, x10_1, rfl, rfl, rfl, HA, HK1, HO_9, BK124, HB⟩ := hrel
  cases gk with
  | zero => exact absurd HA.out (by simp [swashplateref07_swung.l0])
  | succ k1 =>
   have H := HA.out
   clear HA
   simp only [swashplateref07_swung.l0] at H
   by_cases c8 : x10_1 < (l3.length : Int)
   ·
    rw [if_pos c8] at H
    have c8b0 : decide (x10_1 < (l3.length : Int)) = true := decide_eq_true c8
    clear c8
    by_cases c9 : 0 ≤ x10_1
    ·
     rw [if_pos c9] at H
     have c9b0 : decide (0 ≤ x10_1) = true := decide_eq_true c9
     clear c9
     replace H := Option.bind_eq_some_iff.mp H
     obtain ⟨t129, A100, H⟩ := H
     replace H : (if x9_1.length < 17592186044416 then (swashplateref07_swung.l0 k1 (wrap64 ((wrap64 (a0_2 * x1_1)) + (wrap64 ((wrap64 ((wrap64 ((wrap64 (a0_2 * x2_1)) - (wrap64 (a0_0 * x1_1)))) - (wrap64 (a0_1 * x2_1)))) + (wrap64 ((rd l3 x10_1) * t129)))))) (wrap64 ((wrap64 ((wrap64 ((wrap64 (a0_2 * x2_1)) - (wrap64 (a0_0 * x1_1)))) - (wrap64 (a0_1 * x2_1)))) + (wrap64 ((rd l3 x10_1) * t129)))) l3 (x9_1 ++ [wrap64 ((wrap64 (a0_2 * x1_1)) + (wrap64 ((wrap64 ((wrap64 ((wrap64 (a0_2 * x2_1)) - (wrap64 (a0_0 * x1_1)))) - (wrap64 (a0_1 * x2_1)))) + (wrap64 ((rd l3 x10_1) * t129)))))]) (wrap64 (x10_1 + 1)) a0_0 a0_1 a0_2) else (none)) = some r := H
     have A10 := Aside0.mk A100
     clear A100
     by_cases c11 : x9_1.length < 17592186044416
     ·
      rw [if_pos c11] at H
      have LMc11 := Aside0.mk c11
      clear c11
      obtain ⟨y130, hy130⟩ : ∃ y_ : List Int, y_ = (x9_1 ++ [wrap64 ((wrap64 (a0_2 * x1_1)) + (wrap64 ((wrap64 ((wrap64 ((wrap64 (a0_2 * x2_1)) - (wrap64 (a0_0 * x1_1)))) - (wrap64 (a0_1 * x2_1)))) + (wrap64 ((rd l3 x10_1) * t129)))))]) := ⟨_, rfl⟩
      replace H : (swashplateref07_swung.l0 k1 (wrap64 ((wrap64 (a0_2 * x1_1)) + (wrap64 ((wrap64 ((wrap64 ((wrap64 (a0_2 * x2_1)) - (wrap64 (a0_0 * x1_1)))) - (wrap64 (a0_1 * x2_1)))) + (wrap64 ((rd l3 x10_1) * t129)))))) (wrap64 ((wrap64 ((wrap64 ((wrap64 (a0_2 * x2_1)) - (wrap64 (a0_0 * x1_1)))) - (wrap64 (a0_1 * x2_1)))) + (wrap64 ((rd l3 x10_1) * t129)))) l3 y130 (wrap64 (x10_1 + 1)) a0_0 a0_1 a0_2) = some r := by first | (rw [hy130]; with_reducible exact H) | (have H2_ := (Option.bind_some _ _).symm.trans H; rw [hy130]; with_reducible exact H2_) | (have H2_ := (Option.bind_some _ _).symm.trans H; with_reducible exact H2_) | with_reducible exact H | (rw [hy130]; exact H) | exact H
      have Ny130 := Aside0.mk hy130
      clear hy130
      have H' := Aside0.mk H
      clear H
      have hcz12_0 : wr.cell? ⟨gb124, 0, none⟩ = some (.int .i64 a0_0) := (blk_cell BK124.out 0).trans rfl
      have hcz12_1 : wr.cell? ⟨gb124, 1, none⟩ = some (.int .i64 a0_1) := (blk_cell BK124.out 1).trans rfl
      have hcz12_2 : wr.cell? ⟨gb124, 2, none⟩ = some (.int .i64 a0_2) := (blk_cell BK124.out 2).trans rfl
      have hfz12_0 := blk_frozen BK124.out 0
      have hfz12_1 := blk_frozen BK124.out 1
      have hfz12_2 := blk_frozen BK124.out 2
      have p128 : 0 ≤ (x10_1 : Int) := of_decide_eq_true (by first | (with_reducible assumption) | assumption)
      have q128 : x10_1 < (l3.length : Int) := of_decide_eq_true (by first | (with_reducible assumption) | assumption)
      obtain ⟨ad128, e128, hx128_0⟩ := Kd.at_int HR3.out x10_1 p128 q128
      cases e128
      replace hx128_0 := (HB.out.cell (World.block_lt_of_cell? w _ hx128_0)).trans hx128_0
      replace p128 := eq_true p128
      replace q128 := eq_true q128
      go_wp2_with (first | (go_at_call 136; (with_reducible refine (swashplateref07_power.calls k1 a0_2 (wrap64 (x10_1 + 1)) t129 _ A10.out).mono ?_); rintro e w' ⟨rfl, ⟨nd, rfl⟩⟩; (try first | exact ⟨rfl, _, World.drewN_drewN _ _ _⟩ | exact ⟨rfl, _, Eq.trans (World.drewN_drewN _ _ _) (congrArg (World.drewN _) (Nat.add_assoc _ _ _))⟩)) | ((with_reducible refine gate_builtin (b := .append) (xs := #[.tmp 50, .tmp 52]) rfl ?_); at_builtin; refine Kd.R_append (Kd.int .i64) (w0 := w) w.heap.size rfl (.tmp 50) (.tmp 52) 22 3 (.int .i64 0) 8 rfl Try.underlying22 info3 rfl (by decide) (by omega) u9 x9_1 (wrap64 ((wrap64 (a0_2 * x1_1)) + (wrap64 ((wrap64 ((wrap64 ((wrap64 (a0_2 * x2_1)) - (wrap64 (a0_0 * x1_1)))) - (wrap64 (a0_1 * x2_1)))) + (wrap64 ((rd l3 x10_1) * t129)))))) [.int .i64 (wrap64 ((wrap64 (a0_2 * x1_1)) + (wrap64 ((wrap64 ((wrap64 ((wrap64 (a0_2 * x2_1)) - (wrap64 (a0_0 * x1_1)))) - (wrap64 (a0_1 * x2_1)))) + (wrap64 ((rd l3 x10_1) * t129))))))] (fun _ => True) (fun _ => False) rfl rfl ?aP (fun _ hk => hk.elim) ?aF ?aO ?aB ?aS ?aL ?_; (case aP => exact rfl); (case aB => exact (bl_ HB.out)); (case aF => exact (fun _ _ => trivial)); (case aO => exact (by (with_reducible repeat (first | apply Kd.R_alloc | apply Kd.R_drewN | apply Kd.R_drew)); exact HO_9.out)); (case aS => exact (below_size (bl_ HB.out))); (case aL => have := LMc11.out; omega); intro v131 w13 ho hb hg hat; rw [← Ny130.out] at ho; have n0_ := Aside0.mk (blk_grown (bk_ BK124.out) hg (Kd.R_ne HO_9.out BK124.out (by decide))); have n1_ := Aside0.mk (hb); have n2_ := Aside0.mk (ho); clear BK124 HB HO_9; have BK124 := n0_; have HB := n1_; have HO132 := n2_; clear n0_ n1_ n2_ ho hb hg hat))
      try have hqw1_0 := i64_w (x10_1 + 1)
      try have hqw1_1 := i64_w (a0_2 * x1_1)
      try have hqw1_2 := i64_w (a0_2 * x2_1)
      try have hqw1_3 := i64_w (a0_0 * x1_1)
      try have hqw1_4 := i64_w (a0_1 * x2_1)
      try have hqw1_5 := i64_w ((rd l3 x10_1) * t129)
      try have hqw1_6 := i64_w ((wrap64 (a0_2 * x2_1)) - (wrap64 (a0_0 * x1_1)))
      try have hqw1_7 := i64_w ((wrap64 ((wrap64 (a0_2 * x2_1)) - (wrap64 (a0_0 * x1_1)))) - (wrap64 (a0_1 * x2_1)))
      try have hqw1_8 := i64_w ((wrap64 ((wrap64 ((wrap64 (a0_2 * x2_1)) - (wrap64 (a0_0 * x1_1)))) - (wrap64 (a0_1 * x2_1)))) + (wrap64 ((rd l3 x10_1) * t129)))
      try have hqw1_9 := i64_w ((wrap64 (a0_2 * x1_1)) + (wrap64 ((wrap64 ((wrap64 ((wrap64 (a0_2 * x2_1)) - (wrap64 (a0_0 * x1_1)))) - (wrap64 (a0_1 * x2_1)))) + (wrap64 ((rd l3 x10_1) * t129)))))
      repeat (go_quiet (first | (go_at_call 136; (with_reducible refine (swashplateref07_power.calls k1 a0_2 (wrap64 (x10_1 + 1)) t129 _ A10.out).mono ?_); rintro e w' ⟨rfl, ⟨nd, rfl⟩⟩; (try first | exact ⟨rfl, _, World.drewN_drewN _ _ _⟩ | exact ⟨rfl, _, Eq.trans (World.drewN_drewN _ _ _) (congrArg (World.drewN _) (Nat.add_assoc _ _ _))⟩)) | ((with_reducible refine gate_builtin (b := .append) (xs := #[.tmp 50, .tmp 52]) rfl ?_); at_builtin; refine Kd.R_append (Kd.int .i64) (w0 := w) w.heap.size rfl (.tmp 50) (.tmp 52) 22 3 (.int .i64 0) 8 rfl Try.underlying22 info3 rfl (by decide) (by omega) u9 x9_1 (wrap64 ((wrap64 (a0_2 * x1_1)) + (wrap64 ((wrap64 ((wrap64 ((wrap64 (a0_2 * x2_1)) - (wrap64 (a0_0 * x1_1)))) - (wrap64 (a0_1 * x2_1)))) + (wrap64 ((rd l3 x10_1) * t129)))))) [.int .i64 (wrap64 ((wrap64 (a0_2 * x1_1)) + (wrap64 ((wrap64 ((wrap64 ((wrap64 (a0_2 * x2_1)) - (wrap64 (a0_0 * x1_1)))) - (wrap64 (a0_1 * x2_1)))) + (wrap64 ((rd l3 x10_1) * t129))))))] (fun _ => True) (fun _ => False) rfl rfl ?aP (fun _ hk => hk.elim) ?aF ?aO ?aB ?aS ?aL ?_; (case aP => exact rfl); (case aB => exact (bl_ HB.out)); (case aF => exact (fun _ _ => trivial)); (case aO => exact (by (with_reducible repeat (first | apply Kd.R_alloc | apply Kd.R_drewN | apply Kd.R_drew)); exact HO_9.out)); (case aS => exact (below_size (bl_ HB.out))); (case aL => have := LMc11.out; omega); intro v131 w13 ho hb hg hat; rw [← Ny130.out] at ho; have n0_ := Aside0.mk (blk_grown (bk_ BK124.out) hg (Kd.R_ne HO_9.out BK124.out (by decide))); have n1_ := Aside0.mk (hb); have n2_ := Aside0.mk (ho); clear BK124 HB HO_9; have BK124 := n0_; have HB := n1_; have HO132 := n2_; clear n0_ n1_ n2_ ho hb hg hat)); try go_wp2_with (first | (go_at_call 136; (with_reducible refine (swashplateref07_power.calls k1 a0_2 (wrap64 (x10_1 + 1)) t129 _ A10.out).mono ?_); rintro e w' ⟨rfl, ⟨nd, rfl⟩⟩; (try first | exact ⟨rfl, _, World.drewN_drewN _ _ _⟩ | exact ⟨rfl, _, Eq.trans (World.drewN_drewN _ _ _) (congrArg (World.drewN _) (Nat.add_assoc _ _ _))⟩)) | ((with_reducible refine gate_builtin (b := .append) (xs := #[.tmp 50, .tmp 52]) rfl ?_); at_builtin; refine Kd.R_append (Kd.int .i64) (w0 := w) w.heap.size rfl (.tmp 50) (.tmp 52) 22 3 (.int .i64 0) 8 rfl Try.underlying22 info3 rfl (by decide) (by omega) u9 x9_1 (wrap64 ((wrap64 (a0_2 * x1_1)) + (wrap64 ((wrap64 ((wrap64 ((wrap64 (a0_2 * x2_1)) - (wrap64 (a0_0 * x1_1)))) - (wrap64 (a0_1 * x2_1)))) + (wrap64 ((rd l3 x10_1) * t129)))))) [.int .i64 (wrap64 ((wrap64 (a0_2 * x1_1)) + (wrap64 ((wrap64 ((wrap64 ((wrap64 (a0_2 * x2_1)) - (wrap64 (a0_0 * x1_1)))) - (wrap64 (a0_1 * x2_1)))) + (wrap64 ((rd l3 x10_1) * t129))))))] (fun _ => True) (fun _ => False) rfl rfl ?aP (fun _ hk => hk.elim) ?aF ?aO ?aB ?aS ?aL ?_; (case aP => exact rfl); (case aB => exact (bl_ HB.out)); (case aF => exact (fun _ _ => trivial)); (case aO => exact (by (with_reducible repeat (first | apply Kd.R_alloc | apply Kd.R_drewN | apply Kd.R_drew)); exact HO_9.out)); (case aS => exact (below_size (bl_ HB.out))); (case aL => have := LMc11.out; omega); intro v131 w13 ho hb hg hat; rw [← Ny130.out] at ho; have n0_ := Aside0.mk (blk_grown (bk_ BK124.out) hg (Kd.R_ne HO_9.out BK124.out (by decide))); have n1_ := Aside0.mk (hb); have n2_ := Aside0.mk (ho); clear BK124 HB HO_9; have BK124 := n0_; have HB := n1_; have HO132 := n2_; clear n0_ n1_ n2_ ho hb hg hat)))
      go_roundg k1
      case measure => have := HK1.out; omega
      case rel => exact ⟨(wrap64 ((wrap64 (a0_2 * x1_1)) + (wrap64 ((wrap64 ((wrap64 ((wrap64 (a0_2 * x2_1)) - (wrap64 (a0_0 * x1_1)))) - (wrap64 (a0_1 * x2_1)))) + (wrap64 ((rd l3 x10_1) * t129)))))), (wrap64 ((wrap64 ((wrap64 ((wrap64 (a0_2 * x2_1)) - (wrap64 (a0_0 * x1_1)))) - (wrap64 (a0_1 * x2_1)))) + (wrap64 ((rd l3 x10_1) * t129)))), (y130), (wrap64 (x10_1 + 1)), (by first | rfl | (simp; done) | (simp [*]; done)), (by first | rfl | (simp; done) | (simp [*]; done)), (by first | rfl | (simp; done) | (simp [*]; done)), H', ⟨by have := HK1.out; omega⟩, ⟨by (with_reducible repeat (first | apply Kd.R_alloc | apply Kd.R_drewN | apply Kd.R_drew)); exact HO132.out⟩, ⟨bk_ BK124.out⟩, ⟨bl_ HB.out⟩⟩
     ·
      rw [if_neg c11] at H
      exact absurd H (by simp)
    ·
     rw [if_neg c9] at H
     exact absurd H (by simp)
   ·
    rw [if_neg c8] at H
    have c8b0 : decide (x10_1 < (l3.length : Int)) = false := decide_eq_false c8
    clear c8
    obtain rfl := Option.some.inj H
    go_wp2
    go_ret
    exact ⟨_, by first | rfl | (simp [errW_none, errW_some] <;> rfl) | (simp [*, errW_none, errW_some] <;> rfl), by (with_reducible repeat (first | apply Kd.R_alloc | apply Kd.R_drewN | apply Kd.R_drew)); exact HO_9.out, bl_ HB.out⟩
end Go.Proofs.Yteodlmgmmpkpoaa.PS
end
section
namespace Go.Proofs.Yteodlmgmmpkpoaa.PS
open Go.RowKit Go.Proofs.YteodlmgmmpkpoaaW.PrintWords Go.Proofs.YteodlmgmmpkpoaaW.PrintLast Go.Proofs.YteodlmgmmpkpoaaW.PrintMore
attribute [local go_sem] max2_int min2_int max_two min_two max_three min_three max_four min_four   -- for this text's walks alone
set_option linter.unusedVariables false
set_option linter.unusedSimpArgs false
def swashplateref07_lowest.l0 : Nat → Int → Int → Int → Int → Option (Int × Int)
 | 0, _, _, _, _ => none
 | k + 1, x0, x1, x5, x6 => if x6 > 0 then (if x6 = 0 then (none) else (swashplateref07_lowest.l0 k x0 x1 x6 (Int.tmod x5 x6))) else (if x5 = 0 then (none) else (some (wrap64 (Int.tdiv x0 x5), wrap64 (Int.tdiv x1 x5))))
def swashplateref07_lowest.f (k : Nat) (a0 : Int) (a1 : Int) : Option (Int × Int) := swashplateref07_lowest.l0 k a0 a1 (mx a0 (wrap64 (-a0))) a1
def swashplateref07_lowest.T6 : Bool × List (List Nat × List Nat) := (true, [([], []), ([], []), ([0, 1], [0, 1]), ([], []), ([], []), ([3, 4], [3, 4]), ([2, 5], [2, 5]), ([6, 0, 1, 2, 3, 4, 5, 6], [6])])
def swashplateref07_lowest.B6 : List Nat := [0, 0, 3, 0, 0, 24, 63, 127]
theorem swashplateref07_lowest.tab6 : rtab .any (opsOf Try.f135 6) = swashplateref07_lowest.T6 := by kernel_rfl
theorem swashplateref07_lowest.bits6 : waitsOk swashplateref07_lowest.T6.2 swashplateref07_lowest.B6 = true := by kernel_rfl
set_option maxHeartbeats 8000000 in
set_option maxRecDepth 100000 in
theorem swashplateref07_lowest.calls (k : Nat) (a0 : Int) (a1 : Int) (r1 : Int) (r2 : Int) (w : World) (h : swashplateref07_lowest.f k a0 a1 = some (r1, r2)) :
  Calls Try.prog 135 #[.int .i64 a0, .int .i64 a1] w fun e w' => e = .returned (.agg #[.int .i64 r1, .int .i64 r2]) ∧ Below w.heap.size w w' := by
 have hu28 := Try.underlying28
 have HB := Aside0.mk (Below.refl w.heap.size w)
 have H : (swashplateref07_lowest.l0 k a0 a1 (mx a0 (wrap64 (-a0))) a1) = some (r1, r2) := h
 clear h
 obtain ⟨ji3, hji3⟩ : ∃ j_ : Int, (mx a0 (wrap64 (-a0))) = j_ := ⟨_, rfl⟩
 replace H : (swashplateref07_lowest.l0 k a0 a1 ji3 a1) = some (r1, r2) := by first | (rw [hji3] at H; exact H) | (simp only [hji3] at H ⊢; exact H)
 have hji3_ : (if a0 < (wrap64 (-a0)) then (wrap64 (-a0)) else a0) = ji3 := hji3
 have H' := Aside0.mk H
 clear H
 go_enter Try.func135, Try.ntmps135
 go_wp2_with (first | ((with_reducible refine gate_dst (N := 4) rfl ?_); refine box_event ?hg (N := 4) ?hd (cs := #[.int .i64 0, .int .i64 0]) (t := 28) ?hr ?_; (case hd => rfl); (case hg => rfl); (case hr => first | (go_simp; done) | (go_simp; rfl)); intro gb133 hg w4 hbox hb; have n0_ := Aside0.mk (below_step (bl_ HB.out) hb); have n1_ := Aside0.mk (hbox); have n2_ := Aside0.mk (szl_ hg HB.out); have n3_ := Aside0.mk (szl_ hg HB.out); clear HB; have HB := n0_; have BK133 := n1_; have GW133 := n2_; have GE133 := n3_; clear n0_ n1_ n2_ n3_ hb hbox hg))
 go_loopg [5, 6] k (fun kq v5 v6 w' => ∃ (x5_1 : Int) (x6_1 : Int), v5 = .int .i64 x5_1 ∧ v6 = .int .i64 x6_1 ∧ Aside0 (swashplateref07_lowest.l0 kq a0 a1 x5_1 x6_1 = some (r1, r2)) ∧ Aside0 (kq ≤ k) ∧ Aside0 (w'.heap[gb133]? = some (.cells #[.int .i64 0, .int .i64 0] 28 (0, 0))) ∧ Aside0 (Below w.heap.size w w'))
 case atStart => exact ⟨(ji3), (a1), (by first | rfl | (simp; done) | (simp only [← hji3] <;> (first | rfl | simp)) | (simp [*]; done)), (by first | rfl | (simp; done) | (simp [*]; done)), H', ⟨Nat.le_refl _⟩, ⟨bk_ BK133.out⟩, ⟨bl_ HB.out⟩⟩
 case round =>
  clear H'
  try clear c1
  try clear p2
  obtain ⟨x5_1, x6_1, rfl, rfl, HA, HK1, BK133, HB⟩ := hrel
  cases gk with
  | zero => exact absurd HA.out (by simp [swashplateref07_lowest.l0])
  | succ k1 =>
   have H := HA.out
   clear HA
   simp only [swashplateref07_lowest.l0] at H
   by_cases c5 : x6_1 > 0
   ·
    rw [if_pos c5] at H
    have c5b0 : decide (0 < x6_1) = true := decide_eq_true c5
    clear c5
    by_cases c6 : x6_1 = 0
    ·
     rw [if_pos c6] at H
     exact absurd H (by simp)
    ·
     rw [if_neg c6] at H
     have c6b0 : (x6_1 == 0) = false := beq_eq_false_iff_ne.mpr c6
     have c6b1 : (x6_1 != 0) = true := bne_iff_ne.mpr c6
     have H' := Aside0.mk H
     clear H
     go_wp2
     go_roundg k1
     case measure => have := HK1.out; omega
     case rel => exact ⟨(x6_1), (Int.tmod x5_1 x6_1), (by first | rfl | (simp; done) | (simp [*]; done)), (by first | rfl | (simp; done) | (simp [*]; done)), H', ⟨by have := HK1.out; omega⟩, ⟨bk_ BK133.out⟩, ⟨bl_ HB.out⟩⟩
   ·
    rw [if_neg c5] at H
    have c5b0 : decide (0 < x6_1) = false := decide_eq_false c5
    clear c5
    by_cases c7 : x5_1 = 0
    ·
     rw [if_pos c7] at H
     exact absurd H (by simp)
    ·
     rw [if_neg c7] at H
     have c7b0 : (x5_1 == 0) = false := beq_eq_false_iff_ne.mpr c7
     have c7b1 : (x5_1 != 0) = true := bne_iff_ne.mpr c7
     simp only [Option.some.injEq, Prod.mk.injEq] at H
     obtain ⟨rfl, rfl⟩ := H
     try go_wp2
     have n0_ := Aside0.mk (blk_drew BK133.out)
     have n1_ := Aside0.mk (below_drew1 HB.out)
     clear BK133 HB
     have BK133 := n0_
     have HB := n1_
     clear n0_ n1_
     refine start_ (n := 8) (S := fun w' => True) (ds := []) #[false, false, false, false, false, false, false, false] (by kernel_rfl) rfl rfl trivial (fun hHeld => ?_); refine with_tabW swashplateref07_lowest.tab6 swashplateref07_lowest.bits6 (fun HT_ HW_ => ?_)
     generalize wr.drew = w8 at BK133 HB hHeld ⊢
     refine pure_ (i := 0) (N := some 20) (v := ?_) (a' := ?_) #[true, false, false, false, false, false, false, false] rfl rfl (any_of HT_.out (by kernel_rfl)) (fun _ _ _ h => h) (Or.inl ⟨by rfl, ?_⟩) ?_ ?_
     rotate_left
     ·
      intro w'
      go_simp
      with_reducible rfl
     rotate_left
     ·
      simp only [Act.put, List.setIfInBounds_toArray, List.set_cons_zero, List.set_cons_succ, i64_w, i32_w]
      rfl
     refine pure_ (i := 1) (N := some 21) (v := ?_) (a' := ?_) #[true, true, false, false, false, false, false, false] rfl rfl (any_of HT_.out (by kernel_rfl)) (fun _ _ _ h => h) (Or.inl ⟨by rfl, ?_⟩) ?_ ?_
     rotate_left
     ·
      intro w'
      go_simp
      with_reducible rfl
     rotate_left
     ·
      simp only [Act.put, List.setIfInBounds_toArray, List.set_cons_zero, List.set_cons_succ, i64_w, i32_w]
      rfl
     refine pure_ (i := 2) (N := some 22) (v := ?_) (a' := ?_) #[true, true, true, false, false, false, false, false] rfl rfl (any_of HT_.out (by kernel_rfl)) (fun _ _ _ h => h) (Or.inl ⟨by rfl, ?_⟩) ?_ ?_
     rotate_left
     ·
      intro w'
      go_simp
      with_reducible rfl
     rotate_left
     ·
      simp only [Act.put, List.setIfInBounds_toArray, List.set_cons_zero, List.set_cons_succ, i64_w, i32_w]
      rfl
     refine pure_ (i := 3) (N := some 23) (v := ?_) (a' := ?_) #[true, true, true, true, false, false, false, false] rfl rfl (any_of HT_.out (by kernel_rfl)) (fun _ _ _ h => h) (Or.inl ⟨by rfl, ?_⟩) ?_ ?_
     rotate_left
     ·
      intro w'
      go_simp
      with_reducible rfl
     rotate_left
     ·
      simp only [Act.put, List.setIfInBounds_toArray, List.set_cons_zero, List.set_cons_succ, i64_w, i32_w]
      rfl
     refine pure_ (i := 4) (N := some 24) (v := ?_) (a' := ?_) #[true, true, true, true, true, false, false, false] rfl rfl (any_of HT_.out (by kernel_rfl)) (fun _ _ _ h => h) (Or.inl ⟨by rfl, ?_⟩) ?_ ?_
     rotate_left
     ·
      intro w'
      go_simp
      with_reducible rfl
     rotate_left
     ·
      simp only [Act.put, List.setIfInBounds_toArray, List.set_cons_zero, List.set_cons_succ, i64_w, i32_w]
      rfl
     refine pure_ (i := 5) (N := some 25) (v := ?_) (a' := ?_) #[true, true, true, true, true, true, false, false] rfl rfl (any_of HT_.out (by kernel_rfl)) (fun _ _ _ h => h) (Or.inl ⟨by rfl, ?_⟩) ?_ ?_
     rotate_left
     ·
      intro w'
      go_simp
      with_reducible rfl
     rotate_left
     ·
      simp only [Act.put, List.setIfInBounds_toArray, List.set_cons_zero, List.set_cons_succ, i64_w, i32_w]
      rfl
     refine pure_ (i := 6) (N := some 26) (v := ?_) (a' := ?_) #[true, true, true, true, true, true, true, false] rfl rfl (any_of HT_.out (by kernel_rfl)) (fun _ _ _ h => h) (Or.inl ⟨by rfl, ?_⟩) ?_ ?_
     rotate_left
     ·
      intro w'
      go_simp
      with_reducible rfl
     rotate_left
     ·
      simp only [Act.put, List.setIfInBounds_toArray, List.set_cons_zero, List.set_cons_succ, i64_w, i32_w]
      rfl
     refine one_ (i := 7) (N := none) #[true, true, true, true, true, true, true, true] rfl rfl (one_of HT_.out (by kernel_rfl)) (by decide) (fun K hK => ?_)
     have hs9 : w8.cell? ⟨gb133, 0, none⟩ = some (.int .i64 0) := (blk_cell BK133.out 0).trans rfl
     have hfs9 := blk_frozen BK133.out 0
     have hs10 : w8.cell? ⟨gb133, 1, none⟩ = some (.int .i64 0) := (blk_cell BK133.out 1).trans rfl
     have hfs10 := blk_frozen BK133.out 1
     refine skip_ (w1 := ?_) (by rfl) rfl ?_ ?_
     rotate_left
     ·
      go_simp
      rfl
     refine hK.out _ _ trivial (fun hHeld => ?_)
     clear hK K
     refine done_ (done_of HT_.out (by kernel_rfl)) ?_
     try go_wp2
     refine bodyPost_ret (results_cell_row rfl _ _ gb133 28 #[.int .i64 (wrap64 (Int.tdiv a0 x5_1)), .int .i64 (wrap64 (Int.tdiv a1 x5_1))] (0, 0) _ rfl (by (with_reducible repeat (first | refine blk_drewN ?_ _ | refine blk_drew ?_ | refine blk_alloc ?_ _)); refine blk_put (cs := #[.int .i64 (wrap64 (Int.tdiv a0 x5_1)), .int .i64 0]) ?_ 1 _ rfl; (with_reducible repeat (first | refine blk_drewN ?_ _ | refine blk_drew ?_ | refine blk_alloc ?_ _)); refine blk_put (cs := #[.int .i64 0, .int .i64 0]) ?_ 0 _ rfl; (with_reducible repeat (first | refine blk_drewN ?_ _ | refine blk_drew ?_ | refine blk_alloc ?_ _)); exact BK133.out) Try.underlying28 rfl (by kernel_rfl)) rfl ?_
     exact ⟨by first | rfl | (simp [errW_none, errW_some] <;> rfl) | (simp only [← hji3]; first | rfl | (simp [errW_none, errW_some] <;> rfl)) | (simp [*, errW_none, errW_some] <;> rfl), bl_ HB.out⟩
end Go.Proofs.Yteodlmgmmpkpoaa.PS
end
section
namespace Go.Proofs.Yteodlmgmmpkpoaa.PS
open Go.RowKit Go.Proofs.YteodlmgmmpkpoaaW.PrintWords Go.Proofs.YteodlmgmmpkpoaaW.PrintLast Go.Proofs.YteodlmgmmpkpoaaW.PrintMore
set_option linter.unusedVariables false
set_option linter.unusedSimpArgs false
theorem rw7 (x a b : Int) : swashplateref07_within.f x a b = some (decide (a ≤ x) && decide (x ≤ b)) := by
  unfold swashplateref07_within.f
  by_cases h : x ≥ a
  · rw [if_pos h, decide_eq_true (show a ≤ x from h)]; rfl
  · rw [if_neg h, decide_eq_false (show ¬ a ≤ x from h)]; rfl
theorem sw7 (x a b : Int) : sling_within.f x a b = some (decide (a ≤ x) && decide (x ≤ b)) := by
  unfold sling_within.f
  by_cases h : x ≥ a
  · rw [if_pos h, decide_eq_true (show a ≤ x from h)]; rfl
  · rw [if_neg h, decide_eq_false (show ¬ a ≤ x from h)]; rfl
theorem rchk7 (n m D : Int) : swashplateref07_Check.f n m D = some (if slB n m D then 0 else 70) := by
  unfold swashplateref07_Check.f slB
  rw [rw7, Option.bind_some]
  cases h : (decide (1 ≤ D) && decide (D ≤ 4)) with
  | false => simp
  | true =>
    simp only [Bool.and_eq_true, decide_eq_true_eq] at h
    rw [if_pos rfl, rw7, Option.bind_some, wr64 (by omega) (by omega), rw7]
    cases (decide (0 ≤ n) && decide (n ≤ 2 * D)) <;> cases (decide (0 ≤ m) && decide (m ≤ D)) <;> simp
theorem schk7 (n m D : Int) : sling_Check.f n m D = some (if slB n m D then 0 else 70) := by
  unfold sling_Check.f slB
  rw [sw7, Option.bind_some]
  cases h : (decide (1 ≤ D) && decide (D ≤ 4)) with
  | false => simp
  | true =>
    simp only [Bool.and_eq_true, decide_eq_true_eq] at h
    rw [if_pos rfl, sw7, Option.bind_some, wr64 (by omega) (by omega), sw7]
    cases (decide (0 ≤ n) && decide (n ≤ 2 * D)) <;> cases (decide (0 ≤ m) && decide (m ≤ D)) <;> simp
def pwT (D : Int) : Nat → Int
  | 0 => 1
  | t + 1 => wrap64 (pwT D t * D)
theorem power_loop (D : Int) (t : Nat) (ht : t ≤ 100) : ∀ (r i : Nat), i ≤ t → t - i = r → ∀ k, r < k → swashplateref07_power.l0 k D t (pwT D i) i = some (pwT D t) := by
  intro r
  induction r with
  | zero =>
    intro i hi hr k hk
    obtain ⟨k, rfl⟩ : ∃ j, k = j + 1 := ⟨k - 1, by omega⟩
    obtain rfl : i = t := by omega
    unfold swashplateref07_power.l0
    rw [if_neg (by omega)]
  | succ r ih =>
    intro i hi hr k hk
    obtain ⟨k, rfl⟩ : ∃ j, k = j + 1 := ⟨k - 1, by omega⟩
    unfold swashplateref07_power.l0
    rw [if_pos (by omega), step64 i (by omega)]
    exact ih (i + 1) (by omega) (by omega) k (by omega)
theorem power_total (D : Int) (t : Nat) (ht : t ≤ 100) (k : Nat) (hk : 100 < k) : swashplateref07_power.f k D t = some (pwT D t) := by
  unfold swashplateref07_power.f
  exact power_loop D t ht t 0 (by omega) (by omega) k (by omega)
theorem st_den (n m D : Int) (s : Ld) (hs : s.d = 1) (g : Nat → Int) : ∀ t, (stG n m D s g t).d = pwT D t
  | 0 => hs
  | t + 1 => by
    have := st_den n m D s hs g t
    show wrap64 ((stG n m D s g t).d * D) = wrap64 (pwT D t * D)
    rw [this]
theorem st_congr (n m D : Int) (s : Ld) (g h : Nat → Int) : ∀ t, (∀ i, i < t → g i = h i) → stG n m D s g t = stG n m D s h t
  | 0, _ => rfl
  | t + 1, e => by
    show tkL n m D (stG n m D s g t) (g t) = tkL n m D (stG n m D s h t) (h t)
    rw [st_congr n m D s g h t (fun i hi => e i (by omega)), e t (by omega)]
theorem pw_range (D : Int) (h1 : 1 ≤ D) (h4 : D ≤ 4) : ∀ t : Nat, t ≤ 20 → 1 ≤ pwT D t ∧ pwT D t ≤ (4 ^ t : Nat) ∧ (4 ^ t : Nat) ≤ 1099511627776
  | 0, _ => by simp [pwT]
  | t + 1, h => by
    obtain ⟨a, b, c⟩ := pw_range D h1 h4 t (by omega)
    have e : (4 ^ (t + 1) : Nat) = 4 * 4 ^ t := by rw [Nat.pow_succ]; omega
    have f : (4 ^ (t + 1) : Nat) ≤ 4 ^ 20 := Nat.pow_le_pow_right (by omega) h
    have f2 : (4 ^ 20 : Nat) = 1099511627776 := by decide
    show 1 ≤ wrap64 (pwT D t * D) ∧ wrap64 (pwT D t * D) ≤ _ ∧ _
    generalize pwT D t = x at a b ⊢
    generalize (4 ^ t : Nat) = y at *
    have : 1 ≤ x * D ∧ x * D ≤ 4 * y := by
      rcases (show D = 1 ∨ D = 2 ∨ D = 3 ∨ D = 4 by omega) with rfl | rfl | rfl | rfl <;> omega
    rw [wr64 (by omega) (by omega)]
    omega
def dispL (n m D : Int) (s : Ld) (g : Nat → Int) (k : Nat) : List Int := (List.range k).map fun t => (stG n m D s g t).a
theorem disp_succ (n m D : Int) (s : Ld) (g : Nat → Int) (k : Nat) : dispL n m D s g (k + 1) = dispL n m D s g k ++ [(stG n m D s g k).a] := by
  unfold dispL; rw [List.range_succ, List.map_append]; rfl
theorem disp_len (n m D : Int) (s : Ld) (g : Nat → Int) (k : Nat) : (dispL n m D s g k).length = k := by unfold dispL; simp
theorem disp_rd (n m D : Int) (s : Ld) (g : Nat → Int) (k t : Nat) (h : t < k) : rd (dispL n m D s g k) t = (stG n m D s g t).a := by
  unfold rd dispL
  rw [Int.toNat_natCast, List.getD_eq_getElem?_getD, List.getElem?_map, List.getElem?_range h]; rfl
theorem rd_getD (l : List Int) (t : Nat) : rd l t = l.getD t 0 := by unfold rd; rw [Int.toNat_natCast]
theorem swung_loop (n m D a v : Int) (l : List Int) (hl : l.length ≤ 16) : ∀ (r t : Nat), t ≤ l.length → l.length - t = r → ∀ k, 101 + r < k →
    swashplateref07_swung.l0 k (stG n m D ⟨a, v, 1⟩ (fun i => l.getD i 0) t).a (stG n m D ⟨a, v, 1⟩ (fun i => l.getD i 0) t).v l (dispL n m D ⟨a, v, 1⟩ (fun i => l.getD i 0) (t + 1)) t n m D = some (dispL n m D ⟨a, v, 1⟩ (fun i => l.getD i 0) (l.length + 1)) := by
  intro r
  induction r with
  | zero =>
    intro t ht hr k hk
    obtain ⟨k, rfl⟩ : ∃ j, k = j + 1 := ⟨k - 1, by omega⟩
    obtain rfl : t = l.length := by omega
    unfold swashplateref07_swung.l0
    rw [if_neg (by omega)]
  | succ r ih =>
    intro t ht hr k hk
    obtain ⟨k, rfl⟩ : ∃ j, k = j + 1 := ⟨k - 1, by omega⟩
    have hd := st_den n m D ⟨a, v, 1⟩ rfl (fun i => l.getD i 0) t
    have h1 := ih (t + 1) (by omega) (by omega) k (by omega)
    rw [disp_succ n m D ⟨a, v, 1⟩ (fun i => l.getD i 0) (t + 1)] at h1
    unfold swashplateref07_swung.l0
    rw [if_pos (by omega), if_pos (by omega), step64 t (by omega), power_total D (t + 1) (by omega) k (by omega), Option.bind_some, if_pos (by rw [disp_len]; omega), rd_getD]
    have e : stG n m D ⟨a, v, 1⟩ (fun i => l.getD i 0) (t + 1) = tkL n m D (stG n m D ⟨a, v, 1⟩ (fun i => l.getD i 0) t) (l.getD t 0) := rfl
    rw [e] at h1
    unfold tkL tkV at h1
    rw [hd] at h1
    exact h1
theorem swung_total (n m D a v : Int) (l : List Int) (hl : l.length ≤ 16) (k : Nat) (hk : 120 < k) :
    swashplateref07_swung.f k n m D a v l = some (dispL n m D ⟨a, v, 1⟩ (fun i => l.getD i 0) (l.length + 1)) := by
  unfold swashplateref07_swung.f
  exact swung_loop n m D a v l hl l.length 0 (by omega) (by omega) k (by omega)
theorem rlow_same : ∀ k a b c d, swashplateref07_lowest.l0 k a b c d = sling_lowest.l0 k a b c d
  | 0, _, _, _, _ => rfl
  | k + 1, a, b, c, d => by
    unfold swashplateref07_lowest.l0 sling_lowest.l0
    rw [rlow_same k a b d (Int.tmod c d)]
theorem slow_loop (a b : Int) : ∀ (r : Nat) (c d : Int), d.toNat ≤ r → (0 < c ∨ 0 < d) → 0 < d ∨ 0 < c → ∀ k, r + 1 ≤ k → ∃ p, ∀ j, k ≤ j → sling_lowest.l0 j a b c d = some p := by
  intro r
  induction r with
  | zero =>
    intro c d hd hc _ k hk
    have h0 : ¬ d > 0 := by omega
    have h1 : ¬ c = 0 := by omega
    refine ⟨(wrap64 (Int.tdiv a c), wrap64 (Int.tdiv b c)), fun j hj => ?_⟩
    obtain ⟨j, rfl⟩ : ∃ i, j = i + 1 := ⟨j - 1, by omega⟩
    unfold sling_lowest.l0
    rw [if_neg h0, if_neg h1]
  | succ r ih =>
    intro c d hd hc _ k hk
    by_cases h0 : d > 0
    · have h1 : ¬ d = 0 := by omega
      have hm : Int.tmod c d < d := Int.tmod_lt_of_pos c h0
      obtain ⟨p, hp⟩ := ih d (Int.tmod c d) (by omega) (.inl h0) (.inr h0) (k - 1) (by omega)
      refine ⟨p, fun j hj => ?_⟩
      obtain ⟨j, rfl⟩ : ∃ i, j = i + 1 := ⟨j - 1, by omega⟩
      unfold sling_lowest.l0
      rw [if_pos h0, if_neg h1]
      exact hp j (by omega)
    · have h1 : ¬ c = 0 := by omega
      refine ⟨(wrap64 (Int.tdiv a c), wrap64 (Int.tdiv b c)), fun j hj => ?_⟩
      obtain ⟨j, rfl⟩ : ∃ i, j = i + 1 := ⟨j - 1, by omega⟩
      unfold sling_lowest.l0
      rw [if_neg h0, if_neg h1]
theorem slow_total (a b : Int) (hb : 0 < b) (k : Nat) (hk : b.toNat + 2 ≤ k) : sling_lowest.f k a b = some ((lowT a b).f0, (lowT a b).f1) := by
  obtain ⟨p, hp⟩ := slow_loop a b b.toNat (mx a (wrap64 (-a))) b (Nat.le_refl _) (.inr hb) (.inl hb) (b.toNat + 2) (by omega)
  have h1 : sling_lowest.f (b.toNat + 2) a b = some p := hp _ (Nat.le_refl _)
  have h2 : sling_lowest.f k a b = some p := hp _ hk
  unfold lowT
  rw [h1, h2]
theorem rlow_total (a b : Int) (hb : 0 < b) (k : Nat) (hk : b.toNat + 2 ≤ k) : swashplateref07_lowest.f k a b = some ((lowT a b).f0, (lowT a b).f1) := by
  rw [← slow_total a b hb k hk]
  exact rlow_same k _ _ _ _
theorem swing_succ (n m D : Int) (s : Ld) (g : Nat → Int) (k : Nat) : swingT n m D s g (k + 1) = swingT n m D s g k ++ [lowT (stG n m D s g (k + 1)).a (stG n m D s g (k + 1)).d] := by
  unfold swingT; rw [List.range_succ, List.map_append]; rfl
theorem swing_len (n m D : Int) (s : Ld) (g : Nat → Int) (k : Nat) : (swingT n m D s g k).length = k := by unfold swingT; simp
end Go.Proofs.Yteodlmgmmpkpoaa.PS
end
section
namespace Go.Proofs.Yteodlmgmmpkpoaa.PS
open Go.RowKit Go.Proofs.YteodlmgmmpkpoaaW.PrintWords Go.Proofs.YteodlmgmmpkpoaaW.PrintLast Go.Proofs.YteodlmgmmpkpoaaW.PrintMore
set_option linter.unusedVariables false
set_option linter.unusedSimpArgs false
def ldC (n m D : Int) (s : Ld) : Array Value := #[.int .i64 n, .int .i64 m, .int .i64 D, .int .i64 s.a, .int .i64 s.v, .int .i64 s.d]
def LdP (g : Nat) (cs : Array Value) (w w' : World) : Prop := w'.heap[g]? = some (.cells cs 177 (0, 0)) ∧ Kept w w' (fun k => k = g) ∧ Below g w w'
theorem LdP.mk0 {g : Nat} {cs cs' : Array Value} {w w1 : World} {i : Nat} {u : Value} (h : w.heap[g]? = some (.cells cs 177 (0, 0))) (e : cs.setIfInBounds i u = cs') (h1 : w1 = w.drew) : LdP g cs' w (w1.setCell ⟨g, i, none⟩ u) := by
  subst h1
  exact ⟨blk_put (blk_drew h) i u e, Kept.setCell (p := ⟨g, i, none⟩) (S := fun k => k = g) (Kept.refl w _).drew (.inl rfl) u, (below_drew (Below.refl g w)).setCell (Nat.le_refl _) _⟩
theorem LdP.trans {g : Nat} {cs cs' : Array Value} {w w1 w' : World} (h : LdP g cs w w1) (k : LdP g cs' w1 w') : LdP g cs' w w' :=
  ⟨k.1, h.2.1.then_ k.2.1 (fun _ hk => .inl hk), h.2.2.trans k.2.2⟩
set_option maxRecDepth 100000 in
set_option maxHeartbeats 4000000 in
theorem sling_tick.calls (g : Nat) (n m D : Int) (s : Ld) (gust : Int) (w : World) (h : w.heap[g]? = some (.cells (ldC n m D s) 177 (0, 0))) :
    Calls Try.prog 131 #[.pointer (some ⟨g, 0, none⟩), .int .i64 gust] w fun e w' => e = .returned (.tuple #[]) ∧ LdP g (ldC n m D (tkL n m D s gust)) w w' := by
  obtain ⟨a, v, d⟩ := s
  replace h : w.heap[g]? = some (.cells #[.int .i64 n, .int .i64 m, .int .i64 D, .int .i64 a, .int .i64 v, .int .i64 d] 177 (0, 0)) := h
  have c2 : w.cell? ⟨g, 2, none⟩ = some (.int .i64 D) := (blk_cell h 2).trans rfl
  have c5 : w.cell? ⟨g, 5, none⟩ = some (.int .i64 d) := (blk_cell h 5).trans rfl
  have f5 : w.drew.frozen? ⟨g, 5, none⟩ = false := blk_frozen (blk_drew h) 5
  have p5 : w.drew.cell? ⟨g, 5, none⟩ = some (.int .i64 d) := c5
  have H := Aside0.mk h
  clear h
  go_enter Try.func131, Try.ntmps131
  go_wp2
  go_still_tail 12, (by kernel_rfl)
  change wpList _ _ _ _ _ w.drew
  obtain ⟨w1, hw1⟩ : ∃ w1, w.drew = w1 := ⟨_, rfl⟩
  have HW1 := Aside0.mk hw1
  rw [hw1] at f5 p5 ⊢
  simp only [i64_w]
  obtain ⟨d', hd⟩ : ∃ d', wrap64 (d * D) = d' := ⟨_, rfl⟩
  rw [hd]
  have HD := Aside0.mk hd
  clear hw1 hd c2 c5
  go_wp2
  have hp := LdP.mk0 (i := 5) (u := .int .i64 d') H.out rfl HW1.out.symm
  obtain ⟨w2, hw2⟩ : ∃ w2, w1.setCell ⟨g, 5, none⟩ (.int .i64 d') = w2 := ⟨_, rfl⟩
  rw [hw2] at hp ⊢
  have k : w2.heap[g]? = some (.cells #[.int .i64 n, .int .i64 m, .int .i64 D, .int .i64 a, .int .i64 v, .int .i64 d'] 177 (0, 0)) := hp.1
  have HP := Aside0.mk hp
  have H2 := Aside0.mk k
  have c0 : w2.cell? ⟨g, 0, none⟩ = some (.int .i64 n) := (blk_cell k 0).trans rfl
  have c1 : w2.cell? ⟨g, 1, none⟩ = some (.int .i64 m) := (blk_cell k 1).trans rfl
  have c2 : w2.cell? ⟨g, 2, none⟩ = some (.int .i64 D) := (blk_cell k 2).trans rfl
  have c3 : w2.cell? ⟨g, 3, none⟩ = some (.int .i64 a) := (blk_cell k 3).trans rfl
  have c4 : w2.cell? ⟨g, 4, none⟩ = some (.int .i64 v) := (blk_cell k 4).trans rfl
  have c5 : w2.cell? ⟨g, 5, none⟩ = some (.int .i64 d') := (blk_cell k 5).trans rfl
  have f4 : w2.drew.frozen? ⟨g, 4, none⟩ = false := blk_frozen (blk_drew k) 4
  have p4 : w2.drew.cell? ⟨g, 4, none⟩ = some (.int .i64 v) := c4
  clear hw2 hp k f5 p5
  go_wp2
  go_still_tail 42, (by kernel_rfl)
  change wpList _ _ _ _ _ w2.drew
  obtain ⟨w3, hw3⟩ : ∃ w3, w2.drew = w3 := ⟨_, rfl⟩
  have HW3 := Aside0.mk hw3
  rw [hw3] at f4 p4 ⊢
  simp only [i64_w]
  obtain ⟨v', hv⟩ : ∃ v', wrap64 (wrap64 (wrap64 (wrap64 (D * v) - wrap64 (n * a)) - wrap64 (m * v)) + wrap64 (gust * d')) = v' := ⟨_, rfl⟩
  rw [hv]
  have HV := Aside0.mk hv
  clear hw3 hv c0 c1 c2 c3 c4 c5
  go_wp2
  have hp := LdP.mk0 (i := 4) (u := .int .i64 v') H2.out rfl HW3.out.symm
  obtain ⟨w4, hw4⟩ : ∃ w4, w3.setCell ⟨g, 4, none⟩ (.int .i64 v') = w4 := ⟨_, rfl⟩
  rw [hw4] at hp ⊢
  have k : w4.heap[g]? = some (.cells #[.int .i64 n, .int .i64 m, .int .i64 D, .int .i64 a, .int .i64 v', .int .i64 d'] 177 (0, 0)) := hp.1
  have HP2 := Aside0.mk hp
  have H4 := Aside0.mk k
  have c2 : w4.cell? ⟨g, 2, none⟩ = some (.int .i64 D) := (blk_cell k 2).trans rfl
  have c3 : w4.cell? ⟨g, 3, none⟩ = some (.int .i64 a) := (blk_cell k 3).trans rfl
  have c4 : w4.cell? ⟨g, 4, none⟩ = some (.int .i64 v') := (blk_cell k 4).trans rfl
  have f3 : w4.drew.frozen? ⟨g, 3, none⟩ = false := blk_frozen (blk_drew k) 3
  have p3 : w4.drew.cell? ⟨g, 3, none⟩ = some (.int .i64 a) := c3
  clear hw4 hp k f4 p4
  go_wp2
  go_still_tail 18, (by kernel_rfl)
  change wpList _ _ _ _ _ w4.drew
  obtain ⟨w5, hw5⟩ : ∃ w5, w4.drew = w5 := ⟨_, rfl⟩
  have HW5 := Aside0.mk hw5
  rw [hw5] at f3 p3 ⊢
  simp only [i64_w]
  obtain ⟨a', ha⟩ : ∃ a', wrap64 (wrap64 (D * a) + v') = a' := ⟨_, rfl⟩
  rw [ha]
  have HA := Aside0.mk ha
  clear hw5 ha c2 c3 c4
  go_wp2
  have hp := LdP.mk0 (i := 3) (u := .int .i64 a') H4.out rfl HW5.out.symm
  refine ⟨rfl, .tuple #[], by simp [results, Try.results131, go_sem], rfl, ?_⟩
  have e : ldC n m D (tkL n m D ⟨a, v, d⟩ gust) = #[.int .i64 n, .int .i64 m, .int .i64 D, .int .i64 a', .int .i64 v', .int .i64 d'] := by
    rw [← HA.out, ← HV.out, ← HD.out]; rfl
  rw [e]
  exact HP.out.trans (HP2.out.trans hp)
end Go.Proofs.Yteodlmgmmpkpoaa.PS
end
section
namespace Go.Proofs.Yteodlmgmmpkpoaa.PS
open Go.RowKit Go.Proofs.YteodlmgmmpkpoaaW.PrintWords Go.Proofs.YteodlmgmmpkpoaaW.PrintLast Go.Proofs.YteodlmgmmpkpoaaW.PrintMore
set_option linter.unusedVariables false
set_option linter.unusedSimpArgs false
theorem low_calls (a d : Int) (hd : 0 < d) (w : World) : Calls Try.prog 143 #[.int .i64 a, .int .i64 d] w fun e w' => e = .returned (.agg #[.int .i64 (lowT a d).f0, .int .i64 (lowT a d).f1]) ∧ Below w.heap.size w w' :=
  sling_lowest.calls (d.toNat + 2) a d _ _ w (slow_total a d hd _ (Nat.le_refl _))
set_option maxRecDepth 100000 in
set_option maxHeartbeats 4000000 in
theorem sling_place.calls (g : Nat) (n m D : Int) (s : Ld) (hs : 0 < s.d) (w : World) (h : w.heap[g]? = some (.cells (ldC n m D s) 177 (0, 0))) :
    Calls Try.prog 132 #[.pointer (some ⟨g, 0, none⟩)] w fun e w' => e = .returned (.agg #[.int .i64 (lowT s.a s.d).f0, .int .i64 (lowT s.a s.d).f1]) ∧ Below w.heap.size w w' := by
  obtain ⟨a, v, d⟩ := s
  replace h : w.heap[g]? = some (.cells #[.int .i64 n, .int .i64 m, .int .i64 D, .int .i64 a, .int .i64 v, .int .i64 d] 177 (0, 0)) := h
  have HS := Aside0.mk hs
  have HB := Aside0.mk h
  clear h hs
  obtain ⟨r, hr⟩ : ∃ r, lowT a d = r := ⟨_, rfl⟩
  have HR := Aside0.mk hr
  obtain ⟨r0, r1⟩ := r
  show Calls Try.prog 132 #[.pointer (some ⟨g, 0, none⟩)] w fun e w' => e = .returned (.agg #[.int .i64 (lowT a d).f0, .int .i64 (lowT a d).f1]) ∧ Below w.heap.size w w'
  rw [hr]
  clear hr
  go_enter Try.func132, Try.ntmps132
  go_wp2
  have k := blk_alloc HB.out (.cells #[.int .i64 0, .int .i64 0] 28)
  have q := blk_new w (.cells #[.int .i64 0, .int .i64 0] 28)
  have b1 : Below w.heap.size w (w.alloc (.cells #[.int .i64 0, .int .i64 0] 28)) := below_alloc (Below.refl _ _) _
  obtain ⟨w1, hw1⟩ : ∃ w1, w.alloc (.cells #[.int .i64 0, .int .i64 0] 28) = w1 := ⟨_, rfl⟩
  rw [hw1] at k q b1 ⊢
  have c3 : w1.cell? ⟨g, 3, none⟩ = some (.int .i64 a) := (blk_cell k 3).trans rfl
  have c5 : w1.cell? ⟨g, 5, none⟩ = some (.int .i64 d) := (blk_cell k 5).trans rfl
  have HB1 := Aside0.mk b1
  have HQ := Aside0.mk q
  clear k q b1 hw1
  go_still_tail 8, (by kernel_rfl)
  change wpList _ _ _ _ _ w1.drew
  have b2 : Below w.heap.size w w1.drew := below_drew HB1.out
  have q2 := blk_drew HQ.out
  generalize w1.drew = w2 at b2 q2 ⊢
  have HB2 := Aside0.mk b2
  have HQ2 := Aside0.mk q2
  clear c3 c5 b2 q2 HB HB1 HQ
  go_wp2_with (go_at_call 143; refine (low_calls a d HS.out _).mono ?_; rw [HR.out]; rintro e w3 ⟨rfl, hb3⟩; have q3 := blk_below HQ2.out hb3; have z0 : w3.cell? ⟨w.heap.size, 0, none⟩ = some (.int .i64 0) := (blk_cell q3 0).trans rfl; have z1 : w3.cell? ⟨w.heap.size, 1, none⟩ = some (.int .i64 0) := (blk_cell q3 1).trans rfl; have f0 := blk_frozen q3 0; have f1 := blk_frozen q3 1; have HQ3 := Aside0.mk q3; have HB3 := Aside0.mk (below_step HB2.out hb3); clear q3 hb3)
  refine bodyPost_ret (results_cell_row rfl _ _ w.heap.size 28 #[.int .i64 r0, .int .i64 r1] (0, 0) _ rfl (blk_put (cs := #[.int .i64 r0, .int .i64 0]) (blk_put (cs := #[.int .i64 0, .int .i64 0]) HQ3.out 0 _ rfl) 1 _ rfl) Try.underlying28 rfl (by kernel_rfl)) rfl ?_
  exact ⟨rfl, below_set (below_set HB3.out (Nat.le_refl _)) (Nat.le_refl _)⟩
end Go.Proofs.Yteodlmgmmpkpoaa.PS
end
section
namespace Go.Proofs.Yteodlmgmmpkpoaa.PS
open Go.RowKit Go.Proofs.YteodlmgmmpkpoaaW.PrintWords Go.Proofs.YteodlmgmmpkpoaaW.PrintLast Go.Proofs.YteodlmgmmpkpoaaW.PrintMore
attribute [local go_sem] max2_int min2_int max_two min_two max_three min_three max_four min_four   -- for this text's walks alone
set_option linter.unusedVariables false
set_option linter.unusedSimpArgs false
def sling_started.f (a0_0 : Int) (a0_1 : Int) : Option (Bool) := (sling_within.f a0_0 (-1000) 1000).bind fun t122 => (if t122 = true then ((sling_within.f a0_1 (-1000) 1000).bind fun t123 => (some t123)) else (some false))
set_option maxHeartbeats 8000000 in
set_option maxRecDepth 100000 in
theorem sling_started.calls (a0_0 : Int) (a0_1 : Int) (r : Bool) (w : World) (h : sling_started.f a0_0 a0_1 = some r) :
  Calls Try.prog 129 #[.agg #[.int .i64 a0_0, .int .i64 a0_1]] w fun e w' => e = .returned (.bool r) ∧ Below w.heap.size w w' := by
 have hu28 := Try.underlying28
 have HB := Aside0.mk (Below.refl w.heap.size w)
 have H : ((sling_within.f a0_0 (-1000) 1000).bind fun t122 => (if t122 = true then ((sling_within.f a0_1 (-1000) 1000).bind fun t123 => (some t123)) else (some false))) = some r := h
 clear h
 replace H := Option.bind_eq_some_iff.mp H
 obtain ⟨t122, A20, H⟩ := H
 replace H : (if t122 = true then ((sling_within.f a0_1 (-1000) 1000).bind fun t123 => (some t123)) else (some false)) = some r := H
 have A2 := Aside0.mk A20
 clear A20
 by_cases c3 : t122 = true
 ·
  subst c3
  have H1 : ((sling_within.f a0_1 (-1000) 1000).bind fun t123 => (some t123)) = some r := by rw [if_pos rfl] at H; exact H
  clear H
  have H := H1
  clear H1
  replace H := Option.bind_eq_some_iff.mp H
  obtain ⟨t123, A40, H⟩ := H
  replace H : (some t123) = some r := H
  have A4 := Aside0.mk A40
  clear A40
  obtain rfl := Option.some.inj H
  go_enter Try.func129, Try.ntmps129
  go_wp2_with (first | ((with_reducible refine gate_dst (N := 1) rfl ?_); refine box_event ?hg (N := 1) ?hd (cs := #[.int .i64 a0_0, .int .i64 a0_1]) (t := 28) ?hr ?_; (case hd => rfl); (case hg => rfl); (case hr => first | (go_simp; done) | (go_simp; rfl)); intro gb121 hg w5 hbox hb; have n0_ := Aside0.mk (below_step (bl_ HB.out) hb); have n1_ := Aside0.mk (hbox); have n2_ := Aside0.mk (szl_ hg HB.out); have n3_ := Aside0.mk (szl_ hg HB.out); clear HB; have HB := n0_; have BK121 := n1_; have GW121 := n2_; have GE121 := n3_; clear n0_ n1_ n2_ n3_ hb hbox hg; have hcz6_0 : w5.cell? ⟨gb121, 0, none⟩ = some (.int .i64 a0_0) := (blk_cell BK121.out 0).trans rfl; have hcz6_1 : w5.cell? ⟨gb121, 1, none⟩ = some (.int .i64 a0_1) := (blk_cell BK121.out 1).trans rfl; have hfz6_0 := blk_frozen BK121.out 0; have hfz6_1 := blk_frozen BK121.out 1) | ((with_reducible refine gate_callee (f := 115) rfl ?_); refine goesL_ (some 5) rfl rfl Try.func115 (by kernel_rfl) rfl #[.int .i64 a0_0, .int .i64 (-1000), .int .i64 1000] rfl (by (try simp only [List.map_toArray, List.map_cons, List.map_nil]); first | done | rfl | (simp only [List.length_drop, List.length_take]; rfl)) ?_; (with_reducible refine (sling_within.calls a0_0 (-1000) 1000 true _ A2.out).mono ?_); rintro e w' ⟨rfl, ⟨nd, rfl⟩⟩; refine ⟨_, rfl, ?_⟩) | (go_at_call 115; (with_reducible refine (sling_within.calls a0_1 (-1000) 1000 t123 _ A4.out).mono ?_); rintro e w' ⟨rfl, ⟨nd, rfl⟩⟩))
  go_ret
  exact ⟨by first | rfl | (simp [errW_none, errW_some] <;> rfl) | (simp [*, errW_none, errW_some] <;> rfl), bl_ HB.out⟩
 ·
  replace c3 := Bool.eq_false_iff.mpr c3
  subst c3
  have H1 : (some false) = some r := by rw [if_neg (show ¬ (false = true) by decide)] at H; exact H
  clear H
  have H := H1
  clear H1
  obtain rfl := Option.some.inj H
  go_enter Try.func129, Try.ntmps129
  go_wp2_with (first | ((with_reducible refine gate_dst (N := 1) rfl ?_); refine box_event ?hg (N := 1) ?hd (cs := #[.int .i64 a0_0, .int .i64 a0_1]) (t := 28) ?hr ?_; (case hd => rfl); (case hg => rfl); (case hr => first | (go_simp; done) | (go_simp; rfl)); intro gb121 hg w7 hbox hb; have n0_ := Aside0.mk (below_step (bl_ HB.out) hb); have n1_ := Aside0.mk (hbox); have n2_ := Aside0.mk (szl_ hg HB.out); have n3_ := Aside0.mk (szl_ hg HB.out); clear HB; have HB := n0_; have BK121 := n1_; have GW121 := n2_; have GE121 := n3_; clear n0_ n1_ n2_ n3_ hb hbox hg; have hcz8_0 : w7.cell? ⟨gb121, 0, none⟩ = some (.int .i64 a0_0) := (blk_cell BK121.out 0).trans rfl; have hcz8_1 : w7.cell? ⟨gb121, 1, none⟩ = some (.int .i64 a0_1) := (blk_cell BK121.out 1).trans rfl; have hfz8_0 := blk_frozen BK121.out 0; have hfz8_1 := blk_frozen BK121.out 1) | ((with_reducible refine gate_callee (f := 115) rfl ?_); refine goesL_ (some 5) rfl rfl Try.func115 (by kernel_rfl) rfl #[.int .i64 a0_0, .int .i64 (-1000), .int .i64 1000] rfl (by (try simp only [List.map_toArray, List.map_cons, List.map_nil]); first | done | rfl | (simp only [List.length_drop, List.length_take]; rfl)) ?_; (with_reducible refine (sling_within.calls a0_0 (-1000) 1000 false _ A2.out).mono ?_); rintro e w' ⟨rfl, ⟨nd, rfl⟩⟩; refine ⟨_, rfl, ?_⟩))
  go_ret
  exact ⟨by first | rfl | (simp [errW_none, errW_some] <;> rfl) | (simp [*, errW_none, errW_some] <;> rfl), bl_ HB.out⟩
end Go.Proofs.Yteodlmgmmpkpoaa.PS
end
section
namespace Go.Proofs.Yteodlmgmmpkpoaa.PS
open Go.RowKit Go.Proofs.YteodlmgmmpkpoaaW.PrintWords Go.Proofs.YteodlmgmmpkpoaaW.PrintLast Go.Proofs.YteodlmgmmpkpoaaW.PrintMore
set_option linter.unusedVariables false
set_option linter.unusedSimpArgs false
theorem st7 (a v : Int) : sling_started.f a v = some (stB a v) := by
  unfold sling_started.f stB
  rw [sw7, Option.bind_some, sw7]
  cases (decide (-1000 ≤ a) && decide (a ≤ 1000)) <;> simp
def badG (g : Int) : Bool := !guB g
theorem within_badG (x : Int) : sling_within.f x (-100) 100 = some (!badG x) := by
  rw [sw7]; unfold badG guB; rw [Bool.not_not]
theorem gust_calls (x : Int) (w : World) : Calls Try.prog 130 #[.int .i64 x] w (Yes (badG x) w) := by
  have H := Aside0.mk (within_badG x)
  go_enter Try.func130, Try.ntmps130
  go_wp2_with (go_at_call 115; refine (sling_within.calls x _ _ _ _ H.out).mono ?_; rintro e w' ⟨rfl, ⟨nd, rfl⟩⟩)
  go_ret
  exact ⟨by simp, pw_below_drewN (Below.refl _ _) _⟩
set_option maxHeartbeats 1000000 in
theorem index_gusts (A : Option Addr) (c : Nat) (l : List Int) (w : World) (hr : Kd.C (Kd.int .i64) w A l.length l) :
    Calls Try.prog 154 #[.slice A l.length c, .func (.func 130) #[] #[]] w (Place (l.any badG) w) := by
  have HR := Aside0.mk hr
  have HL := Aside0.mk hr.2.1
  clear hr
  go_enter Try.func154, Try.ntmps154
  go_wp2
  go_loopw [5, 8] (fun v5 v8 wr => ∃ x : Nat, v8 = .int .i64 x ∧ Aside0 ((l.take x).any badG = false) ∧ Aside0 (x ≤ l.length) ∧ Aside0 (Below w.heap.size w wr)) (fun _ v8 _ => l.length - (intOf v8).toNat)
  case atStart => exact ⟨0, rfl, ⟨by simp⟩, ⟨Nat.zero_le _⟩, ⟨Below.refl _ _⟩⟩
  case round =>
    obtain ⟨x, rfl, HA, HX, HB⟩ := hrel
    by_cases c1 : x < l.length
    · obtain ⟨ad, e0, hx0⟩ := Kd.at_int HR.out (x : Int) (by omega) (by omega)
      rw [Int.toNat_natCast] at hx0
      have q0 := (HB.out.cell (p := ad.add x) (World.block_lt_of_cell? _ _ hx0)).trans hx0
      have hlen := HL.out
      have HS := Aside0.mk (any_snoc l 0 badG x c1)
      subst e0
      clear hx0 HX
      cases hb1 : badG (rd l x) with
      | false =>
        have HV := Aside0.mk hb1
        clear hb1
        go_wp2_with (go_at_call 130; refine (gust_calls _ _).mono ?_; rintro e w' ⟨rfl, hb⟩; rw [HV.out])
        go_roundw
        case measure => simp [intOf]; omega
        case rel => exact ⟨x + 1, by go_num, ⟨by rw [HS.out, HA.out]; exact HV.out⟩, ⟨by omega⟩, ⟨HB.out.trans (hb.mono (by have := HB.out.size; omega))⟩⟩
      | true =>
        have HV := Aside0.mk hb1
        clear hb1
        go_wp2_with (go_at_call 130; refine (gust_calls _ _).mono ?_; rintro e w' ⟨rfl, hb⟩; rw [HV.out])
        go_ret
        exact ⟨x, rfl, by rw [any_hit l 0 badG x c1 HV.out]; simp, HB.out.trans (hb.mono (by have := HB.out.size; omega))⟩
    · have HE := Aside0.mk (List.take_of_length_le (l := l) (i := x) (by omega))
      go_wp2
      go_ret
      exact ⟨-1, rfl, by rw [← HE.out, HA.out]; rfl, HB.out⟩
theorem has_gusts (A : Option Addr) (c : Nat) (l : List Int) (w : World) (hr : Kd.C (Kd.int .i64) w A l.length l) :
    Calls Try.prog 97 #[.slice A l.length c, .func (.func 130) #[] #[]] w (Yes (l.any badG) w) := by
  have HR := Aside0.mk hr
  clear hr
  go_enter Try.func97, Try.ntmps97
  go_wp2_with (go_at_call 154; refine (index_gusts A c l _ HR.out).mono ?_; rintro e w' ⟨i, rfl, hi, hb⟩; have HI := Aside0.mk hi; clear hi)
  go_ret
  exact ⟨by rw [← HI.out]; rfl, hb⟩
end Go.Proofs.Yteodlmgmmpkpoaa.PS
end
section
namespace Go.Proofs.Yteodlmgmmpkpoaa.PS
open Go.RowKit Go.Proofs.YteodlmgmmpkpoaaW.PrintWords Go.Proofs.YteodlmgmmpkpoaaW.PrintLast Go.Proofs.YteodlmgmmpkpoaaW.PrintMore
set_option linter.unusedVariables false
set_option linter.unusedSimpArgs false
theorem chk_calls (n m D : Int) (w : World) : Calls Try.prog 68 #[.agg #[.int .i64 n, .int .i64 m, .int .i64 D]] w fun e w' => e = .returned (.int .i64 (if slB n m D then 0 else 70)) ∧ Below w.heap.size w w' := sling_Check.calls n m D _ w (schk7 n m D)
theorem chk_no (n m D : Int) (h : slB n m D = false) (w : World) : Calls Try.prog 68 #[.agg #[.int .i64 n, .int .i64 m, .int .i64 D]] w fun e w' => e = .returned (.int .i64 70) ∧ Below w.heap.size w w' := by
  have := chk_calls n m D w
  rw [h] at this
  exact this
theorem chk_yes (n m D : Int) (h : slB n m D = true) (w : World) : Calls Try.prog 68 #[.agg #[.int .i64 n, .int .i64 m, .int .i64 D]] w fun e w' => e = .returned (.int .i64 0) ∧ Below w.heap.size w w' := by
  have := chk_calls n m D w
  rw [h] at this
  exact this
theorem started_calls (a v : Int) (w : World) : Calls Try.prog 129 #[.agg #[.int .i64 a, .int .i64 v]] w (Yes (stB a v) w) := sling_started.calls a v _ w (st7 a v)
set_option maxRecDepth 100000 in
set_option maxHeartbeats 4000000 in
theorem sling_Swing.calls (n : Int) (m : Int) (D : Int) (a : Int) (v : Int) (A2 : Option Addr) (c2 : Nat) (l2 : List Int) (r1 : List (S28)) (r2 : Int) (w : World) (hr2 : Kd.C (Kd.int .i64) w A2 l2.length l2) (hc2 : l2.length ≤ c2) (h : sling_Swing.f n m D a v l2 = some (r1, r2)) :
    Calls Try.prog 70 #[.agg #[.int .i64 n, .int .i64 m, .int .i64 D], .agg #[.int .i64 a, .int .i64 v], .slice A2 l2.length c2] w fun e w' => ∃ v0_ : Value, e = .returned (.tuple #[v0_, .int .i64 r2]) ∧ Kd.R k28 28 w' w.heap.size (fun _ => True) v0_ r1 ∧ Below w.heap.size w w' := by
  have HR2 := Aside0.mk hr2
  clear hr2
  have h' := Option.some.inj h
  clear h
  cases hs : slB n m D with
  | false =>
    rw [hs, if_neg (by simp)] at h'
    cases h'
    have HS := Aside0.mk hs
    clear hs
    go_enter Try.func70, Try.ntmps70
    go_wp2_with (go_at_call 68; refine (chk_no n m D HS.out _).mono ?_; rintro e w1 ⟨rfl, hb1⟩)
    refine bodyPost_ret (results_list (rs := [.tmp 6, .tmp 7]) rfl (by simp) (.tmp (.tmp .nil))) rfl ?_
    exact ⟨_, rfl, Kd.R_nil _ _ _ _ _, (below_alloc (below_alloc (Below.refl _ _) _) _).trans (hb1.mono (by simp; omega))⟩
  | true =>
    rw [hs, if_pos rfl] at h'
    have HS := Aside0.mk hs
    clear hs
    by_cases h16 : 16 < l2.length
    · rw [if_pos h16] at h'
      cases h'
      have hd : decide ((l2.length : Int) > 16) = true := decide_eq_true (by omega)
      go_enter Try.func70, Try.ntmps70
      go_wp2_with (go_at_call 68; refine (chk_yes n m D HS.out _).mono ?_; rintro e w1 ⟨rfl, hb1⟩)
      refine bodyPost_ret (results_list (rs := [.tmp 6, .tmp 7]) rfl (by simp) (.tmp (.tmp .nil))) rfl ?_
      exact ⟨_, rfl, Kd.R_nil _ _ _ _ _, (below_alloc (below_alloc (Below.refl _ _) _) _).trans (hb1.mono (by simp; omega))⟩
    · rw [if_neg h16] at h'
      have hd : decide ((l2.length : Int) > 16) = false := decide_eq_false (by omega)
      cases ht : stB a v with
      | false =>
        rw [ht, Bool.false_and, if_neg (by simp)] at h'
        cases h'
        have HT := Aside0.mk ht
        clear ht
        have HB := Aside0.mk (Below.refl w.heap.size w)
        go_enter Try.func70, Try.ntmps70
        go_wp2_with (first | ((with_reducible refine gate_dst (N := 3) rfl ?_); refine box_event ?hg (N := 3) ?hd (cs := #[.int .i64 n, .int .i64 m, .int .i64 D]) (t := 105) ?hr ?_; (case hd => rfl); (case hg => rfl); (case hr => first | (go_simp; done) | (go_simp; rfl)); intro gs hg w1 hbox hb; have n0_ := Aside0.mk (below_step HB.out hb); have x0_ := Aside0.mk (hbox); have x1_ := Aside0.mk ((by rw [hg]; exact HB.out.size : w.heap.size ≤ gs)); clear HB; have HB := n0_; clear n0_; have BKgs := x0_; clear x0_; have GEgs := x1_; clear x1_; clear hb hbox hg; skip) | ((with_reducible refine gate_dst (N := 4) rfl ?_); refine box_event ?hg (N := 4) ?hd (cs := #[.int .i64 a, .int .i64 v]) (t := 28) ?hr ?_; (case hd => rfl); (case hg => rfl); (case hr => first | (go_simp; done) | (go_simp; rfl)); intro ga hg w2 hbox hb; have n0_ := Aside0.mk (below_step HB.out hb); have m0_ := Aside0.mk (blk_below BKgs.out hb); have x0_ := Aside0.mk (hbox); have x1_ := Aside0.mk ((by rw [hg]; exact HB.out.size : w.heap.size ≤ ga)); clear HB; have HB := n0_; clear n0_; clear BKgs; have BKgs := m0_; clear m0_; have BKga := x0_; clear x0_; have GEga := x1_; clear x1_; clear hb hbox hg; have zgs0 : w2.cell? ⟨gs, 0, none⟩ = some (.int .i64 n) := (blk_cell BKgs.out 0).trans rfl; have zgs1 : w2.cell? ⟨gs, 1, none⟩ = some (.int .i64 m) := (blk_cell BKgs.out 1).trans rfl; have zgs2 : w2.cell? ⟨gs, 2, none⟩ = some (.int .i64 D) := (blk_cell BKgs.out 2).trans rfl; skip) | (go_at_call 68; refine (chk_yes n m D HS.out _).mono ?_; rintro e w3 ⟨rfl, hb⟩; have n0_ := Aside0.mk (below_step HB.out hb); have m0_ := Aside0.mk (blk_below BKgs.out hb); have m1_ := Aside0.mk (blk_below BKga.out hb); clear HB; have HB := n0_; clear n0_; clear BKgs; have BKgs := m0_; clear m0_; clear BKga; have BKga := m1_; clear m1_; clear hb; clear zgs0; clear zgs1; clear zgs2; have zga0 : w3.cell? ⟨ga, 0, none⟩ = some (.int .i64 a) := (blk_cell BKga.out 0).trans rfl; have zga1 : w3.cell? ⟨ga, 1, none⟩ = some (.int .i64 v) := (blk_cell BKga.out 1).trans rfl; skip) | (go_at_call 129; refine (started_calls a v _).mono ?_; rw [HT.out]; rintro e w4 ⟨rfl, hb⟩; have n0_ := Aside0.mk (below_step HB.out hb); have m0_ := Aside0.mk (blk_below BKgs.out hb); have m1_ := Aside0.mk (blk_below BKga.out hb); clear HB; have HB := n0_; clear n0_; clear BKgs; have BKgs := m0_; clear m0_; clear BKga; have BKga := m1_; clear m1_; clear hb; clear zga0; clear zga1; skip))
        refine bodyPost_ret (results_list (rs := [.tmp 6, .tmp 7]) rfl (by simp) (.tmp (.tmp .nil))) rfl ?_
        exact ⟨_, rfl, Kd.R_nil _ _ _ _ _, HB.out⟩
      | true =>
        have HT := Aside0.mk ht
        rw [ht, Bool.true_and] at h'
        clear ht
        have hany : l2.any badG = !l2.all guB := any_not l2 guB
        cases hg : l2.all guB with
        | false =>
          rw [hg, if_neg (by simp)] at h'
          rw [hg] at hany
          cases h'
          have HGu := Aside0.mk (show l2.any badG = true from hany)
          clear hg hany
          have HB := Aside0.mk (Below.refl w.heap.size w)
          go_enter Try.func70, Try.ntmps70
          go_wp2_with (first | ((with_reducible refine gate_dst (N := 3) rfl ?_); refine box_event ?hg (N := 3) ?hd (cs := #[.int .i64 n, .int .i64 m, .int .i64 D]) (t := 105) ?hr ?_; (case hd => rfl); (case hg => rfl); (case hr => first | (go_simp; done) | (go_simp; rfl)); intro gs hg w1 hbox hb; have n0_ := Aside0.mk (below_step HB.out hb); have x0_ := Aside0.mk (hbox); have x1_ := Aside0.mk ((by rw [hg]; exact HB.out.size : w.heap.size ≤ gs)); clear HB; have HB := n0_; clear n0_; have BKgs := x0_; clear x0_; have GEgs := x1_; clear x1_; clear hb hbox hg; skip) | ((with_reducible refine gate_dst (N := 4) rfl ?_); refine box_event ?hg (N := 4) ?hd (cs := #[.int .i64 a, .int .i64 v]) (t := 28) ?hr ?_; (case hd => rfl); (case hg => rfl); (case hr => first | (go_simp; done) | (go_simp; rfl)); intro ga hg w2 hbox hb; have n0_ := Aside0.mk (below_step HB.out hb); have m0_ := Aside0.mk (blk_below BKgs.out hb); have x0_ := Aside0.mk (hbox); have x1_ := Aside0.mk ((by rw [hg]; exact HB.out.size : w.heap.size ≤ ga)); clear HB; have HB := n0_; clear n0_; clear BKgs; have BKgs := m0_; clear m0_; have BKga := x0_; clear x0_; have GEga := x1_; clear x1_; clear hb hbox hg; have zgs0 : w2.cell? ⟨gs, 0, none⟩ = some (.int .i64 n) := (blk_cell BKgs.out 0).trans rfl; have zgs1 : w2.cell? ⟨gs, 1, none⟩ = some (.int .i64 m) := (blk_cell BKgs.out 1).trans rfl; have zgs2 : w2.cell? ⟨gs, 2, none⟩ = some (.int .i64 D) := (blk_cell BKgs.out 2).trans rfl; skip) | (go_at_call 68; refine (chk_yes n m D HS.out _).mono ?_; rintro e w3 ⟨rfl, hb⟩; have n0_ := Aside0.mk (below_step HB.out hb); have m0_ := Aside0.mk (blk_below BKgs.out hb); have m1_ := Aside0.mk (blk_below BKga.out hb); clear HB; have HB := n0_; clear n0_; clear BKgs; have BKgs := m0_; clear m0_; clear BKga; have BKga := m1_; clear m1_; clear hb; clear zgs0; clear zgs1; clear zgs2; have zga0 : w3.cell? ⟨ga, 0, none⟩ = some (.int .i64 a) := (blk_cell BKga.out 0).trans rfl; have zga1 : w3.cell? ⟨ga, 1, none⟩ = some (.int .i64 v) := (blk_cell BKga.out 1).trans rfl; skip) | (go_at_call 129; refine (started_calls a v _).mono ?_; rw [HT.out]; rintro e w4 ⟨rfl, hb⟩; have n0_ := Aside0.mk (below_step HB.out hb); have m0_ := Aside0.mk (blk_below BKgs.out hb); have m1_ := Aside0.mk (blk_below BKga.out hb); clear HB; have HB := n0_; clear n0_; clear BKgs; have BKgs := m0_; clear m0_; clear BKga; have BKga := m1_; clear m1_; clear hb; clear zga0; clear zga1; skip) | (go_at_call 97; refine (has_gusts A2 c2 l2 _ (Kd.C_below HR2.out HB.out)).mono ?_; rw [HGu.out]; rintro e w5 ⟨rfl, hb⟩; have n0_ := Aside0.mk (below_step HB.out hb); have m0_ := Aside0.mk (blk_below BKgs.out hb); have m1_ := Aside0.mk (blk_below BKga.out hb); clear HB; have HB := n0_; clear n0_; clear BKgs; have BKgs := m0_; clear m0_; clear BKga; have BKga := m1_; clear m1_; clear hb; skip))
          refine bodyPost_ret (results_list (rs := [.tmp 6, .tmp 7]) rfl (by simp) (.tmp (.tmp .nil))) rfl ?_
          exact ⟨_, rfl, Kd.R_nil _ _ _ _ _, HB.out⟩
        | true =>
          rw [hg, if_pos rfl] at h'
          rw [hg] at hany
          cases h'
          have HGu := Aside0.mk (show l2.any badG = false from hany)
          clear hg hany
          have HB := Aside0.mk (Below.refl w.heap.size w)
          go_enter Try.func70, Try.ntmps70
          go_wp2_with (first | ((with_reducible refine gate_dst (N := 3) rfl ?_); refine box_event ?hg (N := 3) ?hd (cs := #[.int .i64 n, .int .i64 m, .int .i64 D]) (t := 105) ?hr ?_; (case hd => rfl); (case hg => rfl); (case hr => first | (go_simp; done) | (go_simp; rfl)); intro gs hg w1 hbox hb; have n0_ := Aside0.mk (below_step HB.out hb); have x0_ := Aside0.mk (hbox); have x1_ := Aside0.mk ((by rw [hg]; exact HB.out.size : w.heap.size ≤ gs)); clear HB; have HB := n0_; clear n0_; have BKgs := x0_; clear x0_; have GEgs := x1_; clear x1_; clear hb hbox hg; skip) | ((with_reducible refine gate_dst (N := 4) rfl ?_); refine box_event ?hg (N := 4) ?hd (cs := #[.int .i64 a, .int .i64 v]) (t := 28) ?hr ?_; (case hd => rfl); (case hg => rfl); (case hr => first | (go_simp; done) | (go_simp; rfl)); intro ga hg w2 hbox hb; have n0_ := Aside0.mk (below_step HB.out hb); have m0_ := Aside0.mk (blk_below BKgs.out hb); have x0_ := Aside0.mk (hbox); have x1_ := Aside0.mk ((by rw [hg]; exact HB.out.size : w.heap.size ≤ ga)); clear HB; have HB := n0_; clear n0_; clear BKgs; have BKgs := m0_; clear m0_; have BKga := x0_; clear x0_; have GEga := x1_; clear x1_; clear hb hbox hg; have zgs0 : w2.cell? ⟨gs, 0, none⟩ = some (.int .i64 n) := (blk_cell BKgs.out 0).trans rfl; have zgs1 : w2.cell? ⟨gs, 1, none⟩ = some (.int .i64 m) := (blk_cell BKgs.out 1).trans rfl; have zgs2 : w2.cell? ⟨gs, 2, none⟩ = some (.int .i64 D) := (blk_cell BKgs.out 2).trans rfl; skip) | (go_at_call 68; refine (chk_yes n m D HS.out _).mono ?_; rintro e w3 ⟨rfl, hb⟩; have n0_ := Aside0.mk (below_step HB.out hb); have m0_ := Aside0.mk (blk_below BKgs.out hb); have m1_ := Aside0.mk (blk_below BKga.out hb); clear HB; have HB := n0_; clear n0_; clear BKgs; have BKgs := m0_; clear m0_; clear BKga; have BKga := m1_; clear m1_; clear hb; clear zgs0; clear zgs1; clear zgs2; have zga0 : w3.cell? ⟨ga, 0, none⟩ = some (.int .i64 a) := (blk_cell BKga.out 0).trans rfl; have zga1 : w3.cell? ⟨ga, 1, none⟩ = some (.int .i64 v) := (blk_cell BKga.out 1).trans rfl; skip) | (go_at_call 129; refine (started_calls a v _).mono ?_; rw [HT.out]; rintro e w4 ⟨rfl, hb⟩; have n0_ := Aside0.mk (below_step HB.out hb); have m0_ := Aside0.mk (blk_below BKgs.out hb); have m1_ := Aside0.mk (blk_below BKga.out hb); clear HB; have HB := n0_; clear n0_; clear BKgs; have BKgs := m0_; clear m0_; clear BKga; have BKga := m1_; clear m1_; clear hb; clear zga0; clear zga1; skip) | (go_at_call 97; refine (has_gusts A2 c2 l2 _ (Kd.C_below HR2.out HB.out)).mono ?_; rw [HGu.out]; rintro e w5 ⟨rfl, hb⟩; have n0_ := Aside0.mk (below_step HB.out hb); have m0_ := Aside0.mk (blk_below BKgs.out hb); have m1_ := Aside0.mk (blk_below BKga.out hb); clear HB; have HB := n0_; clear n0_; clear BKgs; have BKgs := m0_; clear m0_; clear BKga; have BKga := m1_; clear m1_; clear hb; have zgs0 : w5.cell? ⟨gs, 0, none⟩ = some (.int .i64 n) := (blk_cell BKgs.out 0).trans rfl; have zgs1 : w5.cell? ⟨gs, 1, none⟩ = some (.int .i64 m) := (blk_cell BKgs.out 1).trans rfl; have zgs2 : w5.cell? ⟨gs, 2, none⟩ = some (.int .i64 D) := (blk_cell BKgs.out 2).trans rfl; have zga0 : w5.cell? ⟨ga, 0, none⟩ = some (.int .i64 a) := (blk_cell BKga.out 0).trans rfl; have zga1 : w5.cell? ⟨ga, 1, none⟩ = some (.int .i64 v) := (blk_cell BKga.out 1).trans rfl; skip) | ((with_reducible refine gate_dst (N := 33) rfl ?_); refine box_event ?hg (N := 33) ?hd (cs := #[.int .i64 n, .int .i64 m, .int .i64 D, .int .i64 a, .int .i64 v, .int .i64 1]) (t := 177) ?hr ?_; (case hd => rfl); (case hg => rfl); (case hr => first | (go_simp; done) | (go_simp; rfl)); intro gl hg w6 hbox hb; have n0_ := Aside0.mk (below_step HB.out hb); have m0_ := Aside0.mk (blk_below BKgs.out hb); have m1_ := Aside0.mk (blk_below BKga.out hb); have x0_ := Aside0.mk (hbox); have x1_ := Aside0.mk ((by rw [hg]; exact HB.out.size : w.heap.size ≤ gl)); clear HB; have HB := n0_; clear n0_; clear BKgs; have BKgs := m0_; clear m0_; clear BKga; have BKga := m1_; clear m1_; have BKgl := x0_; clear x0_; have GEgl := x1_; clear x1_; clear hb hbox hg; clear zgs0; clear zgs1; clear zgs2; clear zga0; clear zga1; skip))
          have hD := HS.out
          unfold slB at hD
          simp only [Bool.and_eq_true, decide_eq_true_eq] at hD
          have HD := Aside0.mk hD.1
          clear hD
          have HL0 : Aside0 (w6.heap[gl]? = some (.cells (ldC n m D (stG n m D ⟨a, v, 1⟩ (fun t => l2.getD t 0) 0)) 177 (0, 0))) := ⟨BKgl.out⟩
          clear BKgs BKga BKgl
          go_loopw [6, 36] (fun v6 v36 wr => ∃ x : Nat, v36 = .int .i64 x ∧ Aside0 (x ≤ l2.length) ∧ Aside0 (Kd.R k28 28 wr w.heap.size (fun k => k ≠ gl) v6 (swingT n m D ⟨a, v, 1⟩ (fun t => l2.getD t 0) x)) ∧ Aside0 (wr.heap[gl]? = some (.cells (ldC n m D (stG n m D ⟨a, v, 1⟩ (fun t => l2.getD t 0) x)) 177 (0, 0))) ∧ Aside0 (Below w.heap.size w wr)) (fun _ v36 _ => l2.length - (intOf v36).toNat)
          case atStart => exact ⟨0, rfl, ⟨Nat.zero_le _⟩, ⟨Kd.R_nil _ _ _ _ _⟩, HL0, HB⟩
          case round =>
            obtain ⟨x, rfl, HX, HO, HLd, HBr⟩ := hrel
            clear HB HL0
            by_cases hx : x < l2.length
            · obtain ⟨ad, e0, hx0⟩ := Kd.at_int (Kd.C_below HR2.out HBr.out) (x : Int) (by omega) (by omega)
              rw [Int.toNat_natCast] at hx0
              rw [rd_getD] at hx0
              subst e0
              have hdx : decide ((x : Int) < (l2.length : Int)) = true := decide_eq_true (by omega)
              have wx : IntKind.i64.wrap ((x : Int) + 1) = (x : Int) + 1 := by rw [i64_w]; exact wr64 (by omega) (by omega)
              have HE := Aside0.mk (swing_succ n m D ⟨a, v, 1⟩ (fun t => l2.getD t 0) x)
              obtain ⟨s, hs⟩ : ∃ s, (stG n m D ⟨a, v, 1⟩ (fun t => l2.getD t 0) x) = s := ⟨_, rfl⟩
              have hld := HLd.out
              rw [hs] at hld
              have HLs := Aside0.mk hld
              have HSx := Aside0.mk hs
              obtain ⟨gx, hgx⟩ : ∃ gx, l2.getD x 0 = gx := ⟨_, rfl⟩
              rw [hgx] at hx0
              have HGx := Aside0.mk hgx
              clear hs hld hgx
              go_wp2_with (go_at_call 131; with_reducible refine (sling_tick.calls gl n m D s gx _ HLs.out).mono ?_; rintro e w7 ⟨rfl, hT⟩; have HT7 := Aside0.mk hT; clear hT)
              have hT1 := HT7.out.1
              rw [show tkL n m D s gx = (stG n m D ⟨a, v, 1⟩ (fun t => l2.getD t 0) (x + 1)) by rw [← HSx.out, ← HGx.out]; rfl] at hT1
              have HO7 := Aside0.mk (Kd.R_kept HO.out HT7.out.2.1 (fun k hk he => hk he))
              have HL7 : Aside0 (w7.heap[gl]? = some (.cells (ldC n m D (stG n m D ⟨a, v, 1⟩ (fun t => l2.getD t 0) (x + 1))) 177 (0, 0))) := ⟨hT1⟩
              have HB7 := Aside0.mk (HBr.out.trans (HT7.out.2.2.mono GEgl.out))
              have HDen : Aside0 (0 < (stG n m D ⟨a, v, 1⟩ (fun t => l2.getD t 0) (x + 1)).d) := ⟨by rw [st_den n m D ⟨a, v, 1⟩ rfl]; have := pw_range D HD.out.1 HD.out.2 (x + 1) (by omega); omega⟩
              clear HO HLd HBr HT7 hx0 hT1 HLs HSx HGx
              go_wp2_with (first | (go_at_call 132; with_reducible refine (sling_place.calls gl n m D _ HDen.out _ HL7.out).mono ?_; rintro e w8 ⟨rfl, hb⟩; have HO8 := Aside0.mk (Kd.R_below HO7.out hb); have HL8 := Aside0.mk (blk_below HL7.out hb); have HB8 := Aside0.mk (below_step HB7.out hb); clear HO7 HL7 HB7 hb; obtain ⟨p, hp⟩ : ∃ p, lowT (stG n m D ⟨a, v, 1⟩ (fun t => l2.getD t 0) (x + 1)).a (stG n m D ⟨a, v, 1⟩ (fun t => l2.getD t 0) (x + 1)).d = p := ⟨_, rfl⟩; rw [hp]; have HP := Aside0.mk hp; clear hp) | ((with_reducible refine gate_builtin (b := .append) (xs := #[.tmp 43, .tmp 46]) rfl ?_); at_builtin; refine Kd.R_append k28 (w0 := w) w.heap.size rfl (.tmp 43) (.tmp 46) 109 28 (.agg #[.int .i64 0, .int .i64 0]) 16 rfl Try.underlying109 info28 rfl (by decide) (by omega) u6 (swingT n m D ⟨a, v, 1⟩ (fun t => l2.getD t 0) x) (p : S28) [.int .i64 p.f0, .int .i64 p.f1] (fun k_ => k_ ≠ gl) (fun _ => False) rfl rfl ?aP (fun _ hk => hk.elim) ?aF ?aO ?aB ?aS ?aL ?_; (case aP => exact k28_mkM _ _ _ (p : S28)); (case aB => exact HB8.out); (case aF => exact fun k_ hk => Kd.freshB HL8.out k_ hk); (case aO => exact HO8.out); (case aS => exact HB8.out.size); (case aL => rw [swing_len]; omega); intro v6n w9 ho hb hg hat; rw [← HP.out] at ho; replace ho : Kd.R k28 28 w9 w.heap.size (fun k => k ≠ gl) v6n ((swingT n m D ⟨a, v, 1⟩ (fun t => l2.getD t 0) x) ++ [lowT (stG n m D ⟨a, v, 1⟩ (fun t => l2.getD t 0) (x + 1)).a (stG n m D ⟨a, v, 1⟩ (fun t => l2.getD t 0) (x + 1)).d]) := ho; rw [← HE.out] at ho; have HO9 := Aside0.mk ho; have HL9 := Aside0.mk (blk_grown HL8.out hg (Kd.R_away HO8.out (fun _ hk => hk))); have HB9 := Aside0.mk hb; clear HO8 HL8 HB8 ho hb hg hat; skip))
              go_roundw
              case measure => simp [intOf]; omega
              case rel => exact ⟨x + 1, by go_num, ⟨by omega⟩, HO9, HL9, HB9⟩
            · obtain rfl : x = l2.length := by have := HX.out; omega
              have hdx : decide ((l2.length : Int) < (l2.length : Int)) = false := decide_eq_false (by omega)
              go_wp2
              refine bodyPost_ret (results_list (rs := [.tmp 6, .tmp 7]) rfl (by simp) (.tmp (.tmp .nil))) rfl ?_
              exact ⟨_, rfl, Kd.R_mono HO.out (fun _ _ => trivial), HBr.out⟩
end Go.Proofs.Yteodlmgmmpkpoaa.PS
end
section
namespace Go.Proofs.Yteodlmgmmpkpoaa.PS
open Go.RowKit Go.Proofs.YteodlmgmmpkpoaaW.PrintWords Go.Proofs.YteodlmgmmpkpoaaW.PrintLast Go.Proofs.YteodlmgmmpkpoaaW.PrintMore
set_option linter.unusedVariables false
set_option linter.unusedSimpArgs false
theorem C_new27 (W : World) (lo hi : Int) : Kd.C k27 (W.alloc (.cells #[.int .i64 lo, .int .i64 hi] 27)) (some ⟨W.heap.size, 0, none⟩) 1 [⟨lo, hi⟩] :=
  ⟨rfl, by omega, fun _ => ⟨_, rfl, fun j p hj => by
    obtain rfl : j = 0 := by
      have := (List.getElem?_eq_some_iff.1 hj).1
      simpa using this
    obtain rfl : (⟨lo, hi⟩ : S27) = p := by simpa using hj
    exact ⟨[.int .i64 lo, .int .i64 hi], rfl, k27_mk _ ⟨lo, hi⟩, fun i u hu => by
      have h := (blk_cell (blk_new W (.cells #[.int .i64 lo, .int .i64 hi] 27)) i).trans (show (#[Value.int .i64 lo, .int .i64 hi] : Array Value)[i]? = some u by simpa using hu)
      have e : (Addr.mk W.heap.size 0 none).add (0 * k27.sz + i) = ⟨W.heap.size, i, none⟩ := by unfold Addr.add; simp; omega
      rw [e]
      exact h⟩⟩⟩
theorem within_c (x a b : Int) (r : Bool) (h : sling_within.f x a b = some r) (w : World) : Calls Try.prog 115 #[.int .i64 x, .int .i64 a, .int .i64 b] w fun e w' => e = .returned (.bool r) ∧ Below w.heap.size w w' :=
  (sling_within.calls x a b r _ h).mono fun _ _ ⟨he, m, hm⟩ => ⟨he, by rw [hm]; exact pw_below_drewN (Below.refl _ w) m⟩
theorem box1 (lo hi : Int) : boxB [⟨lo, hi⟩] = okS lo hi := by unfold boxB; simp
end Go.Proofs.Yteodlmgmmpkpoaa.PS
end
section
namespace Go.Proofs.Yteodlmgmmpkpoaa.PS
open Go.RowKit Go.Proofs.YteodlmgmmpkpoaaW.PrintWords Go.Proofs.YteodlmgmmpkpoaaW.PrintLast Go.Proofs.YteodlmgmmpkpoaaW.PrintMore
attribute [local go_sem] max2_int min2_int max_two min_two max_three min_three max_four min_four   -- for this text's walks alone
set_option linter.unusedVariables false
set_option linter.unusedSimpArgs false
attribute [local go_sem high] eqA28
def swashplatelaw07_sameFractions.l0 : Nat → List (S28) → List (S28) → Int → Option (Bool)
 | 0, _, _, _ => none
 | k + 1, x0, x1, x5 => if x5 < (x0.length : Int) then (if 0 ≤ x5 then (if x5 < (x1.length : Int) then (if (!(((rd_T28 x0 x5).f0) == ((rd_T28 x1 x5).f0)) || (!(((rd_T28 x0 x5).f1) == ((rd_T28 x1 x5).f1)))) = true then (some false) else (swashplatelaw07_sameFractions.l0 k x0 x1 (wrap64 (x5 + 1)))) else (none)) else (none)) else (some true)
def swashplatelaw07_sameFractions.f (k : Nat) (l0 : List (S28)) (l1 : List (S28)) : Option (Bool) := if (l0.length : Int) = (l1.length : Int) then (swashplatelaw07_sameFractions.l0 k l0 l1 0) else (some false)
set_option maxHeartbeats 8000000 in
set_option maxRecDepth 100000 in
theorem swashplatelaw07_sameFractions.calls (k : Nat) (A0 : Option Addr) (c0 : Nat) (l0 : List (S28)) (A1 : Option Addr) (c1 : Nat) (l1 : List (S28)) (r : Bool) (w : World) (hr0 : Kd.C k28 w A0 l0.length l0) (hc0 : l0.length ≤ c0) (hr1 : Kd.C k28 w A1 l1.length l1) (hc1 : l1.length ≤ c1) (h : swashplatelaw07_sameFractions.f k l0 l1 = some r) :
  Calls Try.prog 72 #[.slice A0 l0.length c0, .slice A1 l1.length c1] w fun e w' => e = .returned (.bool r) ∧ Drawn0 w w' := by
 have hu28 := Try.underlying28
 have HR0 := Aside0.mk hr0
 have HC0 := Aside0.mk hc0
 clear hr0 hc0
 have HR1 := Aside0.mk hr1
 have HC1 := Aside0.mk hc1
 clear hr1 hc1
 have H : (if (l0.length : Int) = (l1.length : Int) then (swashplatelaw07_sameFractions.l0 k l0 l1 0) else (some false)) = some r := h
 clear h
 by_cases c3 : (l0.length : Int) = (l1.length : Int)
 ·
  rw [if_pos c3] at H
  have c3b0 : ((l0.length : Int) == (l1.length : Int)) = true := beq_iff_eq.mpr c3
  have c3b1 : ((l0.length : Int) != (l1.length : Int)) = false := bne_eq_false_iff_eq.mpr c3
  have c3b2 : (l0.length == l1.length) = true := by first | simpa using c3 | (simp at c3 ⊢; omega)
  clear c3
  have H' := Aside0.mk H
  clear H
  go_enter Try.func72, Try.ntmps72
  go_wp2
  go_loopg [5] k (fun kq v5 w' => ∃ (x5_1 : Int), v5 = .int .i64 x5_1 ∧ Aside0 (swashplatelaw07_sameFractions.l0 kq l0 l1 x5_1 = some r) ∧ Aside0 (kq ≤ k) ∧ Drawn0 w w')
  case atStart => exact ⟨(0), (by first | rfl | (simp; done) | (simp [*]; done)), H', ⟨Nat.le_refl _⟩, by repeat (first | exact Drawn0.refl _ | apply Drawn0.step)⟩
  case round =>
   clear H'
   try clear c1
   try clear p2
   try clear c3
   try clear c3b0
   try clear c3b1
   try clear c3b2
   obtain ⟨x5_1, rfl, HA, HK1, ⟨m1, rfl⟩⟩ := hrel
   cases gk with
   | zero => exact absurd HA.out (by simp [swashplatelaw07_sameFractions.l0])
   | succ k1 =>
    have H := HA.out
    clear HA
    simp only [swashplatelaw07_sameFractions.l0] at H
    by_cases c4 : x5_1 < (l0.length : Int)
    ·
     rw [if_pos c4] at H
     have c4b0 : decide (x5_1 < (l0.length : Int)) = true := decide_eq_true c4
     clear c4
     by_cases c5 : 0 ≤ x5_1
     ·
      rw [if_pos c5] at H
      have c5b0 : decide (0 ≤ x5_1) = true := decide_eq_true c5
      clear c5
      by_cases c6 : x5_1 < (l1.length : Int)
      ·
       rw [if_pos c6] at H
       have c6b0 : decide (x5_1 < (l1.length : Int)) = true := decide_eq_true c6
       clear c6
       by_cases c7 : (!(((rd_T28 l0 x5_1).f0) == ((rd_T28 l1 x5_1).f0)) || (!(((rd_T28 l0 x5_1).f1) == ((rd_T28 l1 x5_1).f1)))) = true
       ·
        rw [if_pos c7] at H
        have c7b0 : (!(((rd_T28 l0 x5_1).f0) == ((rd_T28 l1 x5_1).f0)) || (!(((rd_T28 l0 x5_1).f1) == ((rd_T28 l1 x5_1).f1)))) = true := c7
        clear c7
        obtain rfl := Option.some.inj H
        have p150 : 0 ≤ (x5_1 : Int) := of_decide_eq_true (by first | (with_reducible assumption) | assumption)
        have q150 : x5_1 < (l0.length : Int) := of_decide_eq_true (by first | (with_reducible assumption) | assumption)
        obtain ⟨ad150, e150, hx150_0, hx150_1⟩ := at_T28 HR0.out x5_1 p150 q150
        cases e150
        replace p150 := eq_true p150
        replace q150 := eq_true q150
        have p151 : 0 ≤ (x5_1 : Int) := of_decide_eq_true (by first | (with_reducible assumption) | assumption)
        have q151 : x5_1 < (l1.length : Int) := of_decide_eq_true (by first | (with_reducible assumption) | assumption)
        obtain ⟨ad151, e151, hx151_0, hx151_1⟩ := at_T28 HR1.out x5_1 p151 q151
        cases e151
        replace p151 := eq_true p151
        replace q151 := eq_true q151
        go_wp2
        repeat (go_quiet (fail); try go_wp2)
        go_ret
        exact ⟨by first | rfl | (simp; done) | (simp [*]; done), by repeat (first | exact Drawn0.refl _ | apply Drawn0.step)⟩
       ·
        rw [if_neg c7] at H
        have c7b0 : (!(((rd_T28 l0 x5_1).f0) == ((rd_T28 l1 x5_1).f0)) || (!(((rd_T28 l0 x5_1).f1) == ((rd_T28 l1 x5_1).f1)))) = false := by simpa using c7
        clear c7
        have H' := Aside0.mk H
        clear H
        have p150 : 0 ≤ (x5_1 : Int) := of_decide_eq_true (by first | (with_reducible assumption) | assumption)
        have q150 : x5_1 < (l0.length : Int) := of_decide_eq_true (by first | (with_reducible assumption) | assumption)
        obtain ⟨ad150, e150, hx150_0, hx150_1⟩ := at_T28 HR0.out x5_1 p150 q150
        cases e150
        replace p150 := eq_true p150
        replace q150 := eq_true q150
        have p151 : 0 ≤ (x5_1 : Int) := of_decide_eq_true (by first | (with_reducible assumption) | assumption)
        have q151 : x5_1 < (l1.length : Int) := of_decide_eq_true (by first | (with_reducible assumption) | assumption)
        obtain ⟨ad151, e151, hx151_0, hx151_1⟩ := at_T28 HR1.out x5_1 p151 q151
        cases e151
        replace p151 := eq_true p151
        replace q151 := eq_true q151
        go_wp2
        repeat (go_quiet (fail); try go_wp2)
        go_roundg k1
        case measure => have := HK1.out; omega
        case rel => exact ⟨(wrap64 (x5_1 + 1)), (by first | rfl | (simp; done) | (simp [*]; done)), H', ⟨by have := HK1.out; omega⟩, by repeat (first | exact Drawn0.refl _ | apply Drawn0.step)⟩
      ·
       rw [if_neg c6] at H
       exact absurd H (by simp)
     ·
      rw [if_neg c5] at H
      exact absurd H (by simp)
    ·
     rw [if_neg c4] at H
     have c4b0 : decide (x5_1 < (l0.length : Int)) = false := decide_eq_false c4
     clear c4
     obtain rfl := Option.some.inj H
     go_wp2
     go_ret
     exact ⟨by first | rfl | (simp; done) | (simp [*]; done), by repeat (first | exact Drawn0.refl _ | apply Drawn0.step)⟩
 ·
  rw [if_neg c3] at H
  have c3b0 : ((l0.length : Int) == (l1.length : Int)) = false := beq_eq_false_iff_ne.mpr c3
  have c3b1 : ((l0.length : Int) != (l1.length : Int)) = true := bne_iff_ne.mpr c3
  have c3b2 : (l0.length == l1.length) = false := by first | simpa using c3 | (simp at c3 ⊢; omega)
  obtain rfl := Option.some.inj H
  go_enter Try.func72, Try.ntmps72
  go_wp2
  go_ret
  exact ⟨by first | rfl | (simp; done) | (simp [*]; done), by repeat (first | exact Drawn0.refl _ | apply Drawn0.step)⟩
end Go.Proofs.Yteodlmgmmpkpoaa.PS
end
section
namespace Go.Proofs.Yteodlmgmmpkpoaa.PS
open Go.RowKit Go.Proofs.YteodlmgmmpkpoaaW.PrintWords Go.Proofs.YteodlmgmmpkpoaaW.PrintLast Go.Proofs.YteodlmgmmpkpoaaW.PrintMore
set_option linter.unusedVariables false
set_option linter.unusedSimpArgs false
theorem keep7 {w w' : World} (hb : Below w.heap.size w w') {p0 p1 p2 p3 p4 p5 p6 : Addr} {v0 v1 v2 v3 v4 v5 v6 : Value} (h : w.cell? p0 = some v0 ∧ w.cell? p1 = some v1 ∧ w.cell? p2 = some v2 ∧ w.cell? p3 = some v3 ∧ w.cell? p4 = some v4 ∧ w.cell? p5 = some v5 ∧ w.cell? p6 = some v6) : w'.cell? p0 = some v0 ∧ w'.cell? p1 = some v1 ∧ w'.cell? p2 = some v2 ∧ w'.cell? p3 = some v3 ∧ w'.cell? p4 = some v4 ∧ w'.cell? p5 = some v5 ∧ w'.cell? p6 = some v6 := by
  obtain ⟨h0, h1, h2, h3, h4, h5, h6⟩ := h
  exact ⟨(hb.cell (World.block_lt_of_cell? _ _ h0)).trans h0, (hb.cell (World.block_lt_of_cell? _ _ h1)).trans h1, (hb.cell (World.block_lt_of_cell? _ _ h2)).trans h2, (hb.cell (World.block_lt_of_cell? _ _ h3)).trans h3, (hb.cell (World.block_lt_of_cell? _ _ h4)).trans h4, (hb.cell (World.block_lt_of_cell? _ _ h5)).trans h5, (hb.cell (World.block_lt_of_cell? _ _ h6)).trans h6⟩
def hoistB (cab : Int) (X Y : List Int) (V : List (List Int)) (chg : Int) : Bool :=
  (decide (1 ≤ cab) && decide (cab ≤ 100)) && (tableB X Y V && (decide (gI X 0 ≤ 0) && (decide (cab ≤ gI X (X.length - 1)) && (decide (0 ≤ chg) && decide (chg ≤ 100)))))
theorem tb_lens2 {X Y : List Int} {V : List (List Int)} (h : tableB X Y V = true) : 2 ≤ X.length ∧ X.length ≤ 12 := by
  unfold tableB axisB at h
  simp only [Bool.and_eq_true, decide_eq_true_eq] at h
  omega
set_option maxRecDepth 100000 in
set_option maxHeartbeats 4000000 in
theorem checkHoist_yes (cab : Int) (A0' : Option Addr) (c0 : Nat) (X : List Int) (A1 : Option Addr) (c1 : Nat) (Y : List Int) (A2 : Option Addr) (c2 : Nat) (V : List (List Int)) (chg : Int) (w : World)
    (hr0 : Kd.C (Kd.int .i64) w A0' X.length X) (hc0 : X.length ≤ c0) (hr1 : Kd.C (Kd.int .i64) w A1 Y.length Y) (hc1 : Y.length ≤ c1) (hr2 : Kd.C (Kd.slice 3 (Kd.int .i64)) w A2 V.length V) (hc2 : V.length ≤ c2) (h : hoistB cab X Y V chg = true) :
    Calls Try.prog 168 #[.agg #[.int .i64 cab, .slice A0' X.length c0, .slice A1 Y.length c1, .slice A2 V.length c2, .int .i64 chg]] w fun e w' => e = .returned (.int .i64 0) ∧ Below w.heap.size w w' := by
  unfold hoistB at h
  simp only [Bool.and_eq_true, decide_eq_true_eq] at h
  obtain ⟨⟨h1, h2⟩, ht, h3, h4, h5, h6⟩ := h
  have hl := tb_lens2 ht
  have H1 : Aside0 (sling_within.f cab 1 100 = some true) := ⟨by rw [sw7, decide_eq_true h1, decide_eq_true h2]; rfl⟩
  have H2 : Aside0 (spans_CheckTable.f X Y V = some 0) := ⟨by unfold spans_CheckTable.f; rw [ht, if_pos rfl]⟩
  have H3 : Aside0 (sling_within.f chg 0 100 = some true) := ⟨by rw [sw7, decide_eq_true h5, decide_eq_true h6]; rfl⟩
  obtain ⟨A0, e0, y0⟩ := Kd.at_int hr0 0 (by omega) (by omega)
  obtain ⟨A0b, e1, y1⟩ := Kd.at_int hr0 (((X.length - 1 : Nat) : Int)) (by omega) (by omega)
  subst e0
  injection e1 with e1
  subst e1
  rw [show A0.add (Int.toNat 0) = A0 by unfold Addr.add; simp] at y0
  rw [Int.toNat_natCast] at y1
  obtain ⟨x0, hx0⟩ : ∃ x, rd X 0 = x := ⟨_, rfl⟩
  obtain ⟨x1, hx1⟩ : ∃ x, rd X ((X.length - 1 : Nat) : Int) = x := ⟨_, rfl⟩
  rw [hx0] at y0
  rw [hx1] at y1
  have d0 : decide (x0 > 0) = false := decide_eq_false (by have : x0 = gI X 0 := hx0.symm; omega)
  have e : rd X ((X.length - 1 : Nat) : Int) = gI X (X.length - 1) := by unfold rd gI; rw [Int.toNat_natCast]
  rw [hx1] at e
  have d1 : decide (x1 < cab) = false := decide_eq_false (by omega)
  clear e
  have wl : IntKind.i64.wrap ((X.length : Int) - 1) = ((X.length - 1 : Nat) : Int) := by rw [i64_w, wr64 (by omega) (by omega)]; omega
  have HR0 := Aside0.mk hr0
  have HR1 := Aside0.mk hr1
  have HR2 := Aside0.mk hr2
  have HY0 := Aside0.mk y0
  have HY1 := Aside0.mk y1
  have i0 : (0 : Int) < (X.length : Int) := by omega
  have i0n : 0 < X.length := by omega
  have i1 : (0 : Int) ≤ ((X.length - 1 : Nat) : Int) := by omega
  have i2 : ((X.length - 1 : Nat) : Int) < (X.length : Int) := by omega
  have i2n : X.length - 1 < X.length := by omega
  clear hl
  clear hr0 hr1 hr2 y0 y1 hx0 hx1 h1 h2 h3 h4 h5 h6 ht
  have HB := Aside0.mk (Below.refl w.heap.size w)
  go_enter Try.func168, Try.ntmps168
  go_wp2_with (first | ((with_reducible refine gate_dst (N := 1) rfl ?_); refine box_event ?hg (N := 1) ?hd (cs := #[.int .i64 cab, .slice (some A0) X.length c0, .slice A1 Y.length c1, .slice A2 V.length c2, .int .i64 chg]) (t := 62) ?hr ?_; (case hd => rfl); (case hg => rfl); (case hr => first | (go_simp; done) | (go_simp; rfl)); intro gh hg w1 hbox hb; have n0_ := Aside0.mk (below_step HB.out hb); have x0_ := Aside0.mk (hbox); have x1_ := Aside0.mk ((by rw [hg]; exact HB.out.size : w.heap.size ≤ gh)); clear HB; have HB := n0_; clear n0_; have BKgh := x0_; clear x0_; have GEgh := x1_; clear x1_; clear hb hbox hg; have zgh0 : w1.cell? ⟨gh, 0, none⟩ = some (.int .i64 cab) := (blk_cell BKgh.out 0).trans rfl; have zgh1 : w1.cell? ⟨gh, 1, none⟩ = some (.slice (some A0) X.length c0) := (blk_cell BKgh.out 1).trans rfl; have zgh2 : w1.cell? ⟨gh, 2, none⟩ = some (.slice A1 Y.length c1) := (blk_cell BKgh.out 2).trans rfl; have zgh3 : w1.cell? ⟨gh, 3, none⟩ = some (.slice A2 V.length c2) := (blk_cell BKgh.out 3).trans rfl; have zgh4 : w1.cell? ⟨gh, 4, none⟩ = some (.int .i64 chg) := (blk_cell BKgh.out 4).trans rfl; skip))
  have HY0' := Aside0.mk ((HB.out.cell (World.block_lt_of_cell? _ _ HY0.out)).trans HY0.out)
  have HY1' := Aside0.mk ((HB.out.cell (World.block_lt_of_cell? _ _ HY1.out)).trans HY1.out)
  have q0 := HY0'.out
  have q1 := HY1'.out
  go_region_held3 (fun w' => w'.cell? ⟨gh, 0, none⟩ = some (.int .i64 cab) ∧ w'.cell? ⟨gh, 1, none⟩ = some (.slice (some A0) X.length c0) ∧ w'.cell? ⟨gh, 2, none⟩ = some (.slice A1 Y.length c1) ∧ w'.cell? ⟨gh, 3, none⟩ = some (.slice A2 V.length c2) ∧ w'.cell? ⟨gh, 4, none⟩ = some (.int .i64 chg) ∧ w'.cell? A0 = some (.int .i64 x0) ∧ w'.cell? (A0.add (X.length - 1)) = some (.int .i64 x1))
    (((try dsimp only); (first | assumption | exact ⟨zgh0, zgh1, zgh2, zgh3, zgh4, q0, q1⟩ | exact keep7 hb (by assumption))))
    ((first
      | (go_at_call 115; (with_reducible refine (within_c _ _ _ _ H1.out _).mono ?_); rintro e w2 ⟨rfl, hb⟩; have n0_ := Aside0.mk (show Below w.heap.size w _ from below_step (by first | exact HB.out | exact below_drew1 HB.out) hb); clear HB; have HB := n0_; clear n0_)
      | (go_at_call 115; (with_reducible refine (within_c _ _ _ _ H3.out _).mono ?_); rintro e w2 ⟨rfl, hb⟩; have n0_ := Aside0.mk (show Below w.heap.size w _ from below_step (by first | exact HB.out | exact below_drew1 HB.out) hb); clear HB; have HB := n0_; clear n0_)
      | (go_at_call 29; (with_reducible refine (spans_CheckTable.calls _ _ _ _ _ _ _ _ _ _ _ (Kd.C_below HR0.out HB.out) hc0 (Kd.C_below HR1.out HB.out) hc1 (Kd.C_below HR2.out HB.out) hc2 H2.out).mono ?_); rintro e w2 ⟨rfl, hb⟩; have n0_ := Aside0.mk (show Below w.heap.size w _ from below_step (by first | exact HB.out | exact below_drew1 HB.out) hb); clear HB; have HB := n0_; clear n0_)))
  go_wp2
  go_ret
  exact ⟨rfl, HB.out⟩
end Go.Proofs.Yteodlmgmmpkpoaa.PS
end
section
namespace Go.Proofs.Yteodlmgmmpkpoaa.PS
open Go.RowKit Go.Proofs.YteodlmgmmpkpoaaW.PrintWords Go.Proofs.YteodlmgmmpkpoaaW.PrintLast Go.Proofs.YteodlmgmmpkpoaaW.PrintMore
set_option linter.unusedVariables false
set_option linter.unusedSimpArgs false
theorem keep9 {w w' : World} (hb : Below w.heap.size w w') {p0 p1 p2 p3 p4 p5 p6 p7 p8 : Addr} {v0 v1 v2 v3 v4 v5 v6 v7 v8 : Value} (h : w.cell? p0 = some v0 ∧ w.cell? p1 = some v1 ∧ w.cell? p2 = some v2 ∧ w.cell? p3 = some v3 ∧ w.cell? p4 = some v4 ∧ w.cell? p5 = some v5 ∧ w.cell? p6 = some v6 ∧ w.cell? p7 = some v7 ∧ w.cell? p8 = some v8) : w'.cell? p0 = some v0 ∧ w'.cell? p1 = some v1 ∧ w'.cell? p2 = some v2 ∧ w'.cell? p3 = some v3 ∧ w'.cell? p4 = some v4 ∧ w'.cell? p5 = some v5 ∧ w'.cell? p6 = some v6 ∧ w'.cell? p7 = some v7 ∧ w'.cell? p8 = some v8 := by
  obtain ⟨h0, h1, h2, h3, h4, h5, h6, h7, h8⟩ := h
  exact ⟨(hb.cell (World.block_lt_of_cell? _ _ h0)).trans h0, (hb.cell (World.block_lt_of_cell? _ _ h1)).trans h1, (hb.cell (World.block_lt_of_cell? _ _ h2)).trans h2, (hb.cell (World.block_lt_of_cell? _ _ h3)).trans h3, (hb.cell (World.block_lt_of_cell? _ _ h4)).trans h4, (hb.cell (World.block_lt_of_cell? _ _ h5)).trans h5, (hb.cell (World.block_lt_of_cell? _ _ h6)).trans h6, (hb.cell (World.block_lt_of_cell? _ _ h7)).trans h7, (hb.cell (World.block_lt_of_cell? _ _ h8)).trans h8⟩
def wiC (cab : Int) (A0 : Option Addr) (n0 c0 : Nat) (A1 : Option Addr) (n1 c1 : Nat) (A2 : Option Addr) (n2 c2 : Nat) (chg u0 u1 len wt since cyc : Int) (cut touched : Bool) : Array Value :=
  #[.int .i64 cab, .slice A0 n0 c0, .slice A1 n1 c1, .slice A2 n2 c2, .int .i64 chg, .int .i64 u0, .int .i64 u1, .int .i64 len, .int .i64 wt, .int .i64 since, .int .i64 cyc, .bool cut, .bool touched]
theorem tb_lens3 {X Y : List Int} {V : List (List Int)} (h : tableB X Y V = true) : 2 ≤ Y.length ∧ Y.length ≤ 12 := by
  unfold tableB axisB at h
  simp only [Bool.and_eq_true, decide_eq_true_eq] at h
  omega
set_option maxRecDepth 100000 in
set_option maxHeartbeats 4000000 in
theorem newWinch_yes (cab : Int) (A0 : Option Addr) (c0 : Nat) (X : List Int) (A1' : Option Addr) (c1 : Nat) (Y : List Int) (A2 : Option Addr) (c2 : Nat) (V : List (List Int)) (chg u0 u1 : Int) (w : World)
    (hr0 : Kd.C (Kd.int .i64) w A0 X.length X) (hc0 : X.length ≤ c0) (hr1 : Kd.C (Kd.int .i64) w A1' Y.length Y) (hc1 : Y.length ≤ c1) (hr2 : Kd.C (Kd.slice 3 (Kd.int .i64)) w A2 V.length V) (hc2 : V.length ≤ c2) (h : hoistB cab X Y V chg = true) (hu : okS u0 u1 = true)
    (hl : gI Y 0 ≤ u0) :
    Calls Try.prog 113 #[.agg #[.int .i64 cab, .slice A0 X.length c0, .slice A1' Y.length c1, .slice A2 V.length c2, .int .i64 chg], .agg #[.int .i64 u0, .int .i64 u1]] w fun e w' => ∃ g, e = .returned (.tuple #[.pointer (some ⟨g, 0, none⟩), .bool (decide (u1 ≤ gI Y (Y.length - 1))), .int .i64 0]) ∧
      w'.heap[g]? = some (.cells (wiC cab A0 X.length c0 A1' Y.length c1 A2 V.length c2 chg u0 u1 0 0 0 0 false false) 160 (0, 0)) ∧ w.heap.size ≤ g ∧ Below w.heap.size w w' := by
  have HH := Aside0.mk h
  unfold hoistB at h
  simp only [Bool.and_eq_true, decide_eq_true_eq] at h
  have hlen := tb_lens3 h.2.1
  have ckb := check_total [⟨u0, u1⟩]
  rw [box1, hu, if_pos rfl] at ckb
  have HBX := Aside0.mk ckb
  obtain ⟨A1, e0, yy0⟩ := Kd.at_int hr1 0 (by omega) (by omega)
  obtain ⟨A1b, e1, yy1⟩ := Kd.at_int hr1 (((Y.length - 1 : Nat) : Int)) (by omega) (by omega)
  subst e0
  injection e1 with e1
  subst e1
  rw [show A1.add (Int.toNat 0) = A1 by unfold Addr.add; simp] at yy0
  rw [Int.toNat_natCast] at yy1
  have eY : rd Y ((Y.length - 1 : Nat) : Int) = gI Y (Y.length - 1) := by unfold rd gI; rw [Int.toNat_natCast]
  have eY0 : rd Y 0 = gI Y 0 := rfl
  rw [eY0] at yy0
  rw [eY] at yy1
  obtain ⟨y0, hy0⟩ : ∃ x, gI Y 0 = x := ⟨_, rfl⟩
  obtain ⟨y1, hy1⟩ : ∃ x, gI Y (Y.length - 1) = x := ⟨_, rfl⟩
  rw [hy0] at yy0 hl
  rw [hy1] at yy1 ⊢
  have d0 : decide (u0 ≥ y0) = true := decide_eq_true hl
  have wl : IntKind.i64.wrap ((Y.length : Int) - 1) = ((Y.length - 1 : Nat) : Int) := by rw [i64_w, wr64 (by omega) (by omega)]; omega
  have HR0 := Aside0.mk hr0
  have HR1 := Aside0.mk hr1
  have HR2 := Aside0.mk hr2
  have HY0 := Aside0.mk yy0
  have HY1 := Aside0.mk yy1
  have i0 : (0 : Int) < (Y.length : Int) := by omega
  have i0n : 0 < Y.length := by omega
  have i1 : (0 : Int) ≤ ((Y.length - 1 : Nat) : Int) := by omega
  have i2 : ((Y.length - 1 : Nat) : Int) < (Y.length : Int) := by omega
  have i2n : Y.length - 1 < Y.length := by omega
  clear hlen
  clear hr0 hr1 hr2 yy0 yy1 hy0 hy1 h eY eY0 ckb hu hl
  have HB := Aside0.mk (Below.refl w.heap.size w)
  go_enter Try.func113, Try.ntmps113
  go_wp2_with (first | ((with_reducible refine gate_dst (N := 2) rfl ?_); refine box_event ?hg (N := 2) ?hd (cs := #[.int .i64 cab, .slice A0 X.length c0, .slice (some A1) Y.length c1, .slice A2 V.length c2, .int .i64 chg]) (t := 62) ?hr ?_; (case hd => rfl); (case hg => rfl); (case hr => first | (go_simp; done) | (go_simp; rfl)); intro gh hg w1 hbox hb; have n0_ := Aside0.mk (below_step HB.out hb); have x0_ := Aside0.mk (hbox); have x1_ := Aside0.mk ((by rw [hg]; exact HB.out.size : w.heap.size ≤ gh)); clear HB; have HB := n0_; clear n0_; have BKgh := x0_; clear x0_; have GEgh := x1_; clear x1_; clear hb hbox hg; skip) | ((with_reducible refine gate_dst (N := 3) rfl ?_); refine box_event ?hg (N := 3) ?hd (cs := #[.int .i64 u0, .int .i64 u1]) (t := 27) ?hr ?_; (case hd => rfl); (case hg => rfl); (case hr => first | (go_simp; done) | (go_simp; rfl)); intro gw hg w2 hbox hb; have n0_ := Aside0.mk (below_step HB.out hb); have m0_ := Aside0.mk (blk_below BKgh.out hb); have x0_ := Aside0.mk (hbox); have x1_ := Aside0.mk ((by rw [hg]; exact HB.out.size : w.heap.size ≤ gw)); clear HB; have HB := n0_; clear n0_; clear BKgh; have BKgh := m0_; clear m0_; have BKgw := x0_; clear x0_; have GEgw := x1_; clear x1_; clear hb hbox hg; have zgh0 : w2.cell? ⟨gh, 0, none⟩ = some (.int .i64 cab) := (blk_cell BKgh.out 0).trans rfl; have zgh1 : w2.cell? ⟨gh, 1, none⟩ = some (.slice A0 X.length c0) := (blk_cell BKgh.out 1).trans rfl; have zgh2 : w2.cell? ⟨gh, 2, none⟩ = some (.slice (some A1) Y.length c1) := (blk_cell BKgh.out 2).trans rfl; have zgh3 : w2.cell? ⟨gh, 3, none⟩ = some (.slice A2 V.length c2) := (blk_cell BKgh.out 3).trans rfl; have zgh4 : w2.cell? ⟨gh, 4, none⟩ = some (.int .i64 chg) := (blk_cell BKgh.out 4).trans rfl; skip) | (go_at_call 168; refine (checkHoist_yes cab A0 c0 X (some A1) c1 Y A2 c2 V chg _ (Kd.C_below HR0.out HB.out) hc0 (Kd.C_below HR1.out HB.out) hc1 (Kd.C_below HR2.out HB.out) hc2 HH.out).mono ?_; rintro e w3 ⟨rfl, hb⟩; have n0_ := Aside0.mk (below_step HB.out hb); have m0_ := Aside0.mk (blk_below BKgh.out hb); have m1_ := Aside0.mk (blk_below BKgw.out hb); clear HB; have HB := n0_; clear n0_; clear BKgh; have BKgh := m0_; clear m0_; clear BKgw; have BKgw := m1_; clear m1_; clear hb; clear zgh0; clear zgh1; clear zgh2; clear zgh3; clear zgh4; have zgw0 : w3.cell? ⟨gw, 0, none⟩ = some (.int .i64 u0) := (blk_cell BKgw.out 0).trans rfl; have zgw1 : w3.cell? ⟨gw, 1, none⟩ = some (.int .i64 u1) := (blk_cell BKgw.out 1).trans rfl; skip) | (go_at_call 26; refine (spans_Check.calls _ 1 [⟨u0, u1⟩] _ _ (C_new27 _ u0 u1) (Nat.le_refl _) HBX.out).mono ?_; rintro e w4 ⟨rfl, hb0⟩; have hb := (below_alloc (Below.refl _ w3) (.cells #[.int .i64 u0, .int .i64 u1] 27)).trans (hb0.mono (by simp)); clear hb0; have n0_ := Aside0.mk (below_step HB.out hb); have m0_ := Aside0.mk (blk_below BKgh.out hb); have m1_ := Aside0.mk (blk_below BKgw.out hb); clear HB; have HB := n0_; clear n0_; clear BKgh; have BKgh := m0_; clear m0_; clear BKgw; have BKgw := m1_; clear m1_; clear hb; clear zgw0; clear zgw1; have zgh0 : w4.cell? ⟨gh, 0, none⟩ = some (.int .i64 cab) := (blk_cell BKgh.out 0).trans rfl; have zgh1 : w4.cell? ⟨gh, 1, none⟩ = some (.slice A0 X.length c0) := (blk_cell BKgh.out 1).trans rfl; have zgh2 : w4.cell? ⟨gh, 2, none⟩ = some (.slice (some A1) Y.length c1) := (blk_cell BKgh.out 2).trans rfl; have zgh3 : w4.cell? ⟨gh, 3, none⟩ = some (.slice A2 V.length c2) := (blk_cell BKgh.out 3).trans rfl; have zgh4 : w4.cell? ⟨gh, 4, none⟩ = some (.int .i64 chg) := (blk_cell BKgh.out 4).trans rfl; have zgw0 : w4.cell? ⟨gw, 0, none⟩ = some (.int .i64 u0) := (blk_cell BKgw.out 0).trans rfl; have zgw1 : w4.cell? ⟨gw, 1, none⟩ = some (.int .i64 u1) := (blk_cell BKgw.out 1).trans rfl; skip))
  have q0 := (HB.out.cell (World.block_lt_of_cell? _ _ HY0.out)).trans HY0.out
  have q1 := (HB.out.cell (World.block_lt_of_cell? _ _ HY1.out)).trans HY1.out
  go_region_held3 (fun w' => w'.cell? ⟨gh, 0, none⟩ = some (.int .i64 cab) ∧ w'.cell? ⟨gh, 1, none⟩ = some (.slice A0 X.length c0) ∧ w'.cell? ⟨gh, 2, none⟩ = some (.slice (some A1) Y.length c1) ∧ w'.cell? ⟨gh, 3, none⟩ = some (.slice A2 V.length c2) ∧ w'.cell? ⟨gh, 4, none⟩ = some (.int .i64 chg) ∧ w'.cell? ⟨gw, 0, none⟩ = some (.int .i64 u0) ∧ w'.cell? ⟨gw, 1, none⟩ = some (.int .i64 u1) ∧ w'.cell? A1 = some (.int .i64 y0) ∧ w'.cell? (A1.add (Y.length - 1)) = some (.int .i64 y1))
    (((try dsimp only); (first | assumption | exact ⟨zgh0, zgh1, zgh2, zgh3, zgh4, zgw0, zgw1, q0, q1⟩ | exact keep9 (below_alloc (Below.refl _ _) _) (by assumption))))
    ((first | fail))
  all_goals
    go_wp2
    refine bodyPost_ret (results_list (rs := [.tmp 4, .tmp 5, .tmp 6]) rfl (by simp) (.tmp (.tmp (.tmp .nil)))) rfl ?_
    exact ⟨w4.heap.size, rfl, blk_new _ _, HB.out.size, below_alloc (below_drew1 HB.out) _⟩
end Go.Proofs.Yteodlmgmmpkpoaa.PS
end
section
namespace Go.Proofs.Yteodlmgmmpkpoaa.PS
open Go.RowKit Go.Proofs.YteodlmgmmpkpoaaW.PrintWords Go.Proofs.YteodlmgmmpkpoaaW.PrintLast Go.Proofs.YteodlmgmmpkpoaaW.PrintMore
set_option linter.unusedVariables false
theorem spanned2 (a0 a1 b0 b1 : Int) : spans_spanned.f [⟨a0, a1⟩, ⟨b0, b1⟩] = some (if okS a0 a1 && okS b0 b1 then 0 else 10) := by
  unfold spans_spanned.f
  simp only [List.all_cons, List.all_nil, Bool.and_true]
end Go.Proofs.Yteodlmgmmpkpoaa.PS
end
section
namespace Go.Proofs.Yteodlmgmmpkpoaa.PS
open Go.RowKit Go.Proofs.YteodlmgmmpkpoaaW.PrintWords Go.Proofs.YteodlmgmmpkpoaaW.PrintLast Go.Proofs.YteodlmgmmpkpoaaW.PrintMore
set_option linter.unusedVariables false
theorem lies_total {l : List Int} (h : 2 ≤ l.length) (hl : l.length ≤ 15) (a b : Int) : spans_lies.f l a b = some (onB l a b) := by
  have e : wrap64 ((l.length : Int) - 1) = ((l.length - 1 : Nat) : Int) := by rw [wr64 (by omega) (by omega)]; omega
  have e0 : rd l 0 = gI l 0 := rd_nat l 0
  unfold spans_lies.f onB
  rw [if_pos (by omega), e0, e]
  by_cases h1 : a ≥ gI l 0
  · rw [if_pos h1, if_pos (by omega), if_pos (by omega), rd_nat, decide_eq_true (show gI l 0 ≤ a from h1), Bool.true_and]
  · rw [if_neg h1, decide_eq_false (show ¬ gI l 0 ≤ a from h1), Bool.false_and]
theorem tb_lens {X Y : List Int} {V : List (List Int)} (h : tableB X Y V = true) : (2 ≤ X.length ∧ X.length ≤ 12) ∧ (2 ≤ Y.length ∧ Y.length ≤ 12) := by
  unfold tableB axisB at h
  simp only [Bool.and_eq_true, decide_eq_true_eq] at h
  omega
theorem cp_total (X Y : List Int) (V : List (List Int)) (a0 a1 b0 b1 : Int) : spans_checkPoints.f X Y V a0 a1 b0 b1 = some (pointsE X Y V a0 a1 b0 b1) := by
  unfold spans_checkPoints.f pointsE spans_CheckTable.f
  rw [Option.bind_some]
  cases ht : tableB X Y V with
  | false => rfl
  | true =>
    obtain ⟨⟨x0, x1⟩, y0, y1⟩ := tb_lens ht
    rw [if_pos rfl, if_pos rfl, if_pos rfl, spanned2, Option.bind_some]
    cases okS a0 a1 && okS b0 b1 with
    | false => rfl
    | true =>
      rw [if_pos rfl, if_pos rfl, if_pos rfl, lies_total x0 (by omega), Option.bind_some]
      cases onB X a0 a1 with
      | false => rfl
      | true =>
        rw [if_pos rfl, lies_total y0 (by omega), Option.bind_some]
        cases onB Y b0 b1 <;> rfl
theorem points_iff (X Y : List Int) (V : List (List Int)) (a0 a1 b0 b1 : Int) : pointsE X Y V a0 a1 b0 b1 = 0 ↔ pointsB X Y V a0 a1 b0 b1 = true := by
  unfold pointsE pointsB
  cases tableB X Y V <;> cases (okS a0 a1 && okS b0 b1) <;> cases (onB X a0 a1 && onB Y b0 b1) <;> simp
structure Box2 (X Y : List Int) (V : List (List Int)) (a0 a1 b0 b1 : Int) : Prop where
  tab : tableB X Y V = true
  okx : okS a0 a1 = true
  oky : okS b0 b1 = true
  onx : onB X a0 a1 = true
  ony : onB Y b0 b1 = true
theorem box2_of {X Y : List Int} {V : List (List Int)} {a0 a1 b0 b1 : Int} (h : pointsB X Y V a0 a1 b0 b1 = true) : Box2 X Y V a0 a1 b0 b1 := by
  unfold pointsB at h
  simp only [Bool.and_eq_true] at h
  obtain ⟨⟨ht, ho0, ho1⟩, hx, hy⟩ := h
  exact ⟨ht, ho0, ho1, hx, hy⟩
theorem box2_points {X Y : List Int} {V : List (List Int)} {a0 a1 b0 b1 : Int} (h : Box2 X Y V a0 a1 b0 b1) : pointsB X Y V a0 a1 b0 b1 = true := by
  unfold pointsB
  rw [h.tab, h.okx, h.oky, h.onx, h.ony]; rfl
section
variable {X Y : List Int} {V : List (List Int)} {a0 a1 b0 b1 : Int}
theorem Box2.stx (h : Box2 X Y V a0 a1 b0 b1) {x : Int} (hx : x ∈ stopsL X a0 a1) : onB X x x = true ∧ a0 ≤ x ∧ x ≤ a1 := stops_on h.onx (okS_le h.okx) hx
theorem Box2.sty (h : Box2 X Y V a0 a1 b0 b1) {y : Int} (hy : y ∈ stopsL Y b0 b1) : onB Y y y = true ∧ b0 ≤ y ∧ y ≤ b1 := stops_on h.ony (okS_le h.oky) hy
theorem good_at (t : tableB X Y V = true) {x y : Int} (hx : onB X x x = true) (hy : onB Y y y = true) : GoodP (ptAt X Y V x y) := good_pt (tb_of t) (cell_spot (tb_of t).ax hx) (cell_spot (tb_of t).ay hy)
theorem grid_mem {xs ys : List Int} {f : Int → Int → Pt} {q : Pt} (h : q ∈ gridL xs ys f) : ∃ x ∈ xs, ∃ y ∈ ys, q = f x y := by
  unfold gridL at h
  rw [List.mem_flatMap] at h
  obtain ⟨x, hx, hq⟩ := h
  rw [List.mem_map] at hq
  obtain ⟨y, hy, rfl⟩ := hq
  exact ⟨x, hx, y, hy, rfl⟩
theorem Box2.goodL (h : Box2 X Y V a0 a1 b0 b1) {q : Pt} (hq : q ∈ ptsL X Y V a0 a1 b0 b1) : GoodP q := by
  obtain ⟨x, hx, y, hy, rfl⟩ := grid_mem hq
  exact good_at h.tab (h.stx hx).1 (h.sty hy).1
theorem stops_cons (l : List Int) (lo hi : Int) : ∃ r, stopsL l lo hi = lo :: r := ⟨_, rfl⟩
theorem grid_cons (X Y : List Int) (a0 a1 b0 b1 : Int) (f : Int → Int → Pt) : ∃ r, gridL (stopsL X a0 a1) (stopsL Y b0 b1) f = f a0 b0 :: r := by
  obtain ⟨r, hr⟩ := stops_cons X a0 a1
  obtain ⟨s, hs⟩ := stops_cons Y b0 b1
  rw [hr, hs]
  exact ⟨_, rfl⟩
theorem pick_mem (f : Pt → Pt → Bool) : ∀ (l : List Pt) (a : Pt), l.foldl (fun m q => if f m q then q else m) a = a ∨ l.foldl (fun m q => if f m q then q else m) a ∈ l
  | [], a => .inl rfl
  | b :: l, a => by
    rw [List.foldl_cons]
    rcases pick_mem f l (if f a b then b else a) with h | h
    · by_cases hf : f a b = true
      · rw [if_pos hf] at h ⊢; exact .inr (by rw [h]; simp)
      · rw [if_neg hf] at h ⊢; exact .inl h
    · exact .inr (List.mem_cons_of_mem _ h)
theorem least_mem (p : Pt) (l : List Pt) : leastP (p :: l) ∈ p :: l := by
  change l.foldl (fun m q => if ltP q m then q else m) p ∈ p :: l
  rcases pick_mem (fun m q => ltP q m) l p with h | h
  · rw [h]; simp
  · exact List.mem_cons_of_mem _ h
theorem most_mem (p : Pt) (l : List Pt) : mostP (p :: l) ∈ p :: l := by
  change l.foldl (fun m q => if ltP m q then q else m) p ∈ p :: l
  rcases pick_mem (fun m q => ltP m q) l p with h | h
  · rw [h]; simp
  · exact List.mem_cons_of_mem _ h
theorem Box2.least_in (h : Box2 X Y V a0 a1 b0 b1) : leastP (ptsL X Y V a0 a1 b0 b1) ∈ ptsL X Y V a0 a1 b0 b1 := by
  obtain ⟨r, hr⟩ := grid_cons X Y a0 a1 b0 b1 (ptAt X Y V)
  unfold ptsL; rw [hr]; exact least_mem _ _
theorem Box2.most_in (h : Box2 X Y V a0 a1 b0 b1) : mostP (ptsL X Y V a0 a1 b0 b1) ∈ ptsL X Y V a0 a1 b0 b1 := by
  obtain ⟨r, hr⟩ := grid_cons X Y a0 a1 b0 b1 (ptAt X Y V)
  unfold ptsL; rw [hr]; exact most_mem _ _
theorem ext_total (h : Box2 X Y V a0 a1 b0 b1) : spans_extremes.f X Y V a0 a1 b0 b1 =
    some ((leastP (ptsL X Y V a0 a1 b0 b1)).x, (leastP (ptsL X Y V a0 a1 b0 b1)).y, (leastP (ptsL X Y V a0 a1 b0 b1)).n, (leastP (ptsL X Y V a0 a1 b0 b1)).d,
      (mostP (ptsL X Y V a0 a1 b0 b1)).x, (mostP (ptsL X Y V a0 a1 b0 b1)).y, (mostP (ptsL X Y V a0 a1 b0 b1)).n, (mostP (ptsL X Y V a0 a1 b0 b1)).d) := by
  unfold spans_extremes.f
  rw [if_pos (box2_points h)]
theorem good_fl {p : Pt} (h : GoodP p) : spans_floor.f p.n p.d = some (flP p) := by
  obtain ⟨h1, h2, h3, h4⟩ := h
  exact floor_total _ _ h1 (by omega) (by omega)
theorem good_up {p : Pt} (h : GoodP p) : spans_value_up.f p.n p.d = some (ceP p) := by
  obtain ⟨h1, h2, h3, h4⟩ := h
  exact up_total _ _ h1 (by omega) (by omega)
end
end Go.Proofs.Yteodlmgmmpkpoaa.PS
end
section
namespace Go.Proofs.Yteodlmgmmpkpoaa.PS
open Go.RowKit Go.Proofs.YteodlmgmmpkpoaaW.PrintWords Go.Proofs.YteodlmgmmpkpoaaW.PrintLast Go.Proofs.YteodlmgmmpkpoaaW.PrintMore
set_option linter.unusedVariables false
def boundR (X Y : List Int) (V : List (List Int)) (a0 a1 b0 b1 : Int) : Int × Int × Int :=
  if pointsE X Y V a0 a1 b0 b1 = 0 then (flP (leastP (ptsL X Y V a0 a1 b0 b1)), ceP (mostP (ptsL X Y V a0 a1 b0 b1)), 0) else (0, 0, pointsE X Y V a0 a1 b0 b1)
theorem bound_total (X Y : List Int) (V : List (List Int)) (a0 a1 b0 b1 : Int) : spans_Bound.f X Y V a0 a1 b0 b1 = some (boundR X Y V a0 a1 b0 b1) := by
  unfold spans_Bound.f boundR
  rw [cp_total, Option.bind_some]
  by_cases he : pointsE X Y V a0 a1 b0 b1 = 0
  · have h := box2_of ((points_iff X Y V a0 a1 b0 b1).1 he)
    rw [if_pos he, if_pos he, ext_total h, Option.bind_some]
    dsimp only
    rw [good_fl (h.goodL h.least_in), Option.bind_some, good_up (h.goodL h.most_in), Option.bind_some]
  · rw [if_neg he, if_neg he]
end Go.Proofs.Yteodlmgmmpkpoaa.PS
end
